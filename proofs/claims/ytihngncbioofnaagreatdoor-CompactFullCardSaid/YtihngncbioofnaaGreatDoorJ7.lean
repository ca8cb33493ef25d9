import Derived.Test.YtihngncbioofnaaGreatDoorJ6
set_option maxRecDepth 20000
set_option linter.unusedVariables false
set_option maxHeartbeats 128000000
namespace Go.Seg
open Go.ay
def Log.read (L:Log) (M:ay) (q:aU):ah.aG×Int:=
 match L.at q.seg with
 |none=>(ah.zeroE,9)
 |some _=>
  if (M.read (name q.seg) q.at_ q.size).2≠0 then (ah.zeroE,(M.read (name q.seg) q.at_ q.size).2)
  else if (ah.read (M.read (name q.seg) q.at_ q.size).1).2.2≠0 then (ah.zeroE,(ah.read (M.read (name q.seg) q.at_ q.size).1).2.2)
  else if (ah.read (M.read (name q.seg) q.at_ q.size).1).2.1≠(M.read (name q.seg) q.at_ q.size).1.length then (ah.zeroE,4)
  else ((ah.read (M.read (name q.seg) q.at_ q.size).1).1,0)
theorem Qv (l:Bs):(ah.read l).1.key.length=32:=by
 unfold ah.read;dsimp only;split;· rfl
 split;· rfl
 split;· rfl
 split;· rfl
 split
 ·rename_i h1 h2 h3 h4 h5;simp only [acA,acL];simp only [Nat.not_lt]at h3;omega
 ·rfl
theorem ajM {K:Nat}{M:ay} (h:M.Ok K) (s:ByteArray) (a n:Int):(M.read s a n).1.length≤16777216:=by
 unfold ay.read;dsimp only;split;· simp
 split;· simp
 rename_i i _;have:=(h.file i).uN;split;· simp
 split;· simp
 simp only [acA,acL];omega
end Go.Seg
namespace Go.Proofs.YtihngncbioofnaaGreatDoor
open Go Go.Sl Go.ay Go.MapKept Go.RowKit
section
variable {w0 w:World}{F R:List aH}{v bv dv x lv:Value}{q p m K:Nat}{L:Seg.Log}{M:ay}{s:Int×Int}
theorem aia (hH:Ro w0 F Half) (hL:L.Ok) (hM:M.Ok K) (pl:Seg.aU) (h1 : -9223372036854775808≤pl.at_∧pl.at_≤9223372036854775807) (h2 : -9223372036854775808≤pl.size∧pl.size≤9223372036854775807) (h:Sat w0 w (aK p m L::aJ m M::F)) :
  Calls Tryz.prog 99 #[ptr p,JV pl] w (aP fun v w'=>∃ da dc,v = .tuple #[.agg (dU (L.read M pl).1 (.slice da (L.read M pl).1.data.length dc)),errno (L.read M pl).2] ∧
   Sat w0 w' (bK (.slice da (L.read M pl).1.data.length dc) (L.read M pl).1.data::aK p m L::aJ m M::F)):=by
 have HH:=uQ hH;rcases N7 (L:=L) pl.seg with ⟨ha,hb⟩|⟨i,ha,hb⟩
 ·have Hf:=uQ (show L.read M pl=(ah.zeroE,9) by unfold Seg.Log.read;rw [ha]);have Hb:=uQ hb;clear ha hb hH;go_enter Tryz.func99,Tryz.ntmps99;go_wp2_with (first|((with_reducible refine fK ⟨?_⟩);refine fM aQ ak ak ?_;intro bB wB hB)|((with_reducible refine sG ⟨?_⟩);refine tY aQ ?_;intro bE wE hE));obtain ⟨lv,hR⟩:=aK.oW (hE.pk (A:=aK p m L));refine (tu hR).mono ?_;rintro e w2 ⟨v,rfl,rfl,rfl⟩;clear hR lv;have hf:=JA hL pl.seg (hE.pk (A:=aK p m L));rw [Hb.out]at hf;go_wp2_with ((with_reducible refine bI ⟨?_⟩);refine gu aQ aj bC bJ ak au ?_);refine hf.mono ?_;rintro e w3 ⟨v,rfl,rfl,hS3⟩;clear hf hE;go_wp2_with (first|((with_reducible refine xH ⟨?_⟩);refine yZ ?_)|((with_reducible refine qm ⟨?_⟩);first|(refine jV aQ aj aj fQ eX sQ ?_;intro wS hS)|(refine jV (e:=ah.zeroE) (da:=none) (dn:=0) (dc:=0) aQ aj aj rfl eX sQ ?_;intro wS hS)));rw [Hf.out]
  exact ⟨rfl,_,Gq rfl aQ aj bC rfl,_,rfl,none,0,rfl,Sat.gI.2 (Sat.sb hS)⟩
 ·have pz:=uQ (show L.read M pl=if (M.read (Seg.name pl.seg) pl.at_ pl.size).2≠0 then (ah.zeroE,(M.read (Seg.name pl.seg) pl.at_ pl.size).2)
   else if (ah.read (M.read (Seg.name pl.seg) pl.at_ pl.size).1).2.2≠0 then (ah.zeroE,(ah.read (M.read (Seg.name pl.seg) pl.at_ pl.size).1).2.2)
   else if (ah.read (M.read (Seg.name pl.seg) pl.at_ pl.size).1).2.1≠(M.read (Seg.name pl.seg) pl.at_ pl.size).1.length then (ah.zeroE,4)
   else ((ah.read (M.read (Seg.name pl.seg) pl.at_ pl.size).1).1,0) by unfold Seg.Log.read;rw [ha])
  have Hb:=uQ hb;have Hrl:=uQ (Seg.ajM hM (Seg.name pl.seg) pl.at_ pl.size);have hi0:(0:Int)≤(i:Int):=oQ;have hd:decide ((i:Int)<0)=false:=ac4 oQ;clear ha hb hH;go_enter Tryz.func99,Tryz.ntmps99;go_wp2_with (first|((with_reducible refine fK ⟨?_⟩);refine fM aQ ak ak ?_;intro bB wB hB)|((with_reducible refine sG ⟨?_⟩);refine tY aQ ?_;intro bE wE hE));obtain ⟨lv,hR⟩:=aK.oW (hE.pk (A:=aK p m L));refine (tu hR).mono ?_;rintro e w2 ⟨v,rfl,rfl,rfl⟩;clear hR lv;have hf:=JA hL pl.seg (hE.pk (A:=aK p m L));rw [Hb.out]at hf;go_wp2_with ((with_reducible refine bI ⟨?_⟩);refine gu aQ aj bC bJ ak au ?_);refine hf.mono ?_;rintro e w3 ⟨v,rfl,rfl,hS3⟩;clear hf hE;obtain ⟨lv,hR⟩:=aK.oW hS3;clear hS3;go_wp2_with fail
  refine dS [11,12,13,14,15,16] (fun w'=>w'.cell? ⟨p,0,none⟩=some (ptr m)∧w'.cell? ⟨bB,0,none⟩=some (.int .i64 pl.seg)∧w'.cell? ⟨bB,1,none⟩=some (.int .i64 pl.at_)∧w'.cell? ⟨bB,2,none⟩=some (.int .i64 pl.size)) au ?_;have hG:w3.drew.cell? ⟨p,0,none⟩=some (ptr m)∧w3.drew.cell? ⟨bB,0,none⟩=some (.int .i64 pl.seg)∧w3.drew.cell? ⟨bB,1,none⟩=some (.int .i64 pl.at_)∧w3.drew.cell? ⟨bB,2,none⟩=some (.int .i64 pl.size):=⟨hR.drew.cellP bC 0 rfl,hR.drew.cellP bC 0 rfl,hR.drew.cellP bC 1 rfl,hR.drew.cellP bC 2 rfl⟩;refine rP 0 ?_ (y:=aZ);refine rP 1 ?_ (y:=dV);refine rP 2 ?_ (y:=bW);refine rt 3 (h:=?_);refine rP 4 ?_ (y:=bW);refine rt 5 (h:=?_);refine rP 7 ?_ (y:=bW);refine rt 8 (h:=?_);refine rP 9 ?_ (y:=bW);refine rt 10 (h:=?_);clear hG;refine bY 6 ak au (fun K hK=>?_)
  (refine oJ au ak ?_)
  refine (yQ pl.seg hR.drew).mono ?_;rintro e w4 ⟨v,rfl,rfl,hS4⟩;refine hK _ _ (.inr (.inl ⟨hS4.cellP bC 0 rfl,hS4.cellP bC 0 rfl,hS4.cellP bC 1 rfl,hS4.cellP bC 2 rfl⟩)) ?_;clear hK hR;refine bY 11 ak au (fun K hK=>?_)
  (refine afC au ak ak ak ak ?_)
  refine (ajL hM (Sat.pk aQ) _ pl.at_ pl.size h1 h2).mono ?_;rintro e w5 ⟨v,rfl,bv,rfl,hS5⟩;refine hK _ _ (.inl rfl) ?_;clear hK hS4 h1 h2;refine rP 12 ?_ (y:=aZ);refine rP 13 ?_ (y:=(fC ak bU));refine rP 14 ?_ (y:=(fC ak bU));refine rP 15 ?_ (y:=fZ);refine rP 16 ?_ (y:=fZ);refine dI au ?_;generalize M.read (Seg.name pl.seg) pl.at_ pl.size=RR at *
  obtain ⟨bs,e1⟩:=RR;by_cases he:e1=0;rotate_left
  ·have heb:(e1==0)=false:=ahB he;have Hf:=uQ (pz.out.trans (acr he));clear he;go_wp2_with (first|((with_reducible refine xH ⟨?_⟩);refine yZ ?_)|((with_reducible refine qm ⟨?_⟩);first|(refine jV aQ aj aj fQ eX sQ ?_;intro wS hS)|(refine jV (e:=ah.zeroE) (da:=none) (dn:=0) (dc:=0) aQ aj aj rfl eX sQ ?_;intro wS hS)));rw [Hf.out];exact ⟨rfl,_,Gq rfl aQ aj bC rfl,_,rfl,none,0,rfl,Sat.gI.2 (Sat.pick (aK.shut2 (lv:=lv) (Sat.sb hS)) aV)⟩
  subst he;have MN:=uQ (pz.out.trans (abA (fun h=>h rfl)));clear pz;obtain ⟨ba,bn,bc,hbv,hbn,hbc,hbl⟩:=EM hS5;subst hbv;subst hbl;have hfr:=Xb bs (bv:= .slice ba bs.length bc) (Ro.op (Ro.bK _ _)) ⟨_,_,_,rfl,hbn,hbc⟩ (Ro.os HH.out) (by have:=Hrl.out;simp only at this;omega) hS5;have hkey:=Seg.Qv bs;generalize ah.read bs=FR at *
  obtain ⟨fe,fn,e2⟩:=FR;simp only at hfr hkey;go_wp2_with fail;refine hfr.mono ?_;rintro e w6 ⟨v,rfl,da,dc,rfl,hS6⟩;clear hfr hS5;by_cases he2:e2=0;rotate_left
  ·have heb:(e2==0)=false:=ahB he2;have Hf:=uQ (MN.out.trans (acr he2));clear he2;go_wp2_with (first|((with_reducible refine sG ⟨?_⟩);refine tY aQ ?_;intro bE wE hE)|((with_reducible refine xH ⟨?_⟩);refine yZ ?_)|((with_reducible refine qm ⟨?_⟩);first|(refine jV aQ aj aj fQ eX sQ ?_;intro wS hS)|(refine jV (e:=ah.zeroE) (da:=none) (dn:=0) (dc:=0) aQ aj aj rfl eX sQ ?_;intro wS hS)));rw [Hf.out];exact ⟨rfl,_,Gq rfl aQ aj bC rfl,_,rfl,none,0,rfl,Sat.gI.2 (Sat.pick (aK.shut2 (lv:=lv) (Sat.sb hS)) aV)⟩
  subst he2;have MO:=uQ (MN.out.trans (abA (fun h=>h rfl)));clear MN;by_cases hn:fn=bs.length;rotate_left
  ·have hnb:((fn:Int)==(bs.length:Int))=false:=by rw [acH];omega
   have Hf:=uQ (MO.out.trans (acr hn));clear hn;go_wp2_with (first|((with_reducible refine sG ⟨?_⟩);refine tY aQ ?_;intro bE wE hE)|((with_reducible refine xH ⟨?_⟩);refine yZ ?_)|((with_reducible refine qm ⟨?_⟩);first|(refine jV aQ aj aj fQ eX sQ ?_;intro wS hS)|(refine jV (e:=ah.zeroE) (da:=none) (dn:=0) (dc:=0) aQ aj aj rfl eX sQ ?_;intro wS hS)));rw [Hf.out];exact ⟨rfl,_,Gq rfl aQ aj bC rfl,_,rfl,none,0,rfl,Sat.gI.2 (Sat.pick (aK.shut2 (lv:=lv) (Sat.sb hS)) aV)⟩
  have Hf:=uQ (MO.out.trans (abA (fun h=>h hn)));have hnb:((fn:Int)==(bs.length:Int))=true:=by rw [ai7];omega
  clear hn MO;go_wp2_with (first|((with_reducible refine sG ⟨?_⟩);refine tY aQ ?_;intro bE wE hE)|((with_reducible refine EL ⟨?_⟩);refine GR aQ aj bC fQ ?_)|((with_reducible refine qm ⟨?_⟩);first|(refine jV aQ aj aj fQ eX sQ ?_;intro wS hS)|(refine jV (e:=ah.zeroE) (da:=none) (dn:=0) (dc:=0) aQ aj aj rfl eX sQ ?_;intro wS hS)));rw [Hf.out];exact ⟨rfl,_,Gq rfl aQ aj bC hkey,_,rfl,da,dc,rfl,Sat.sub (aK.shut2 (lv:=lv) (Sat.sb hS)) pV⟩
end
end Go.Proofs.YtihngncbioofnaaGreatDoor
namespace Go.Seg
open Go.ay
structure Alike (M M':ay):Prop where
 now:M'.now=M.now
 room:M'.room=M.room
 off:M'.off=M.off
 bytes:∀ p∈M.now,(M'.file p.2).now=(M.file p.2).now
theorem Alike.refl (M:ay):Alike M M:=⟨rfl,rfl,rfl,fun _ _=>rfl⟩
theorem Alike.trans {A B C:ay} (h:Alike A B) (k:Alike B C):Alike A C:=
 ⟨k.now.trans h.now,k.room.trans h.room,k.off.trans h.off,fun p hp=>(k.bytes p (by rw [h.now];exact hp)).trans (h.bytes p hp)⟩
theorem Alike.used {M M':ay} (h:Alike M M'):M'.used=M.used:=by
 unfold ay.used;rw [h.now];exact adu List.sum (amJ fun p hp=>by rw [h.bytes p hp])
theorem Alike.all {M M':ay} (h:Alike M M') (s:ByteArray):M'.all s=M.all s:=by
 unfold ay.all;rw [h.off,h.now];cases hg:bP M.now s with
 |none=>rfl
 |some i=>simp only;rw [h.bytes (s,i) (jF hg)]
theorem KL {M:ay}{K:Nat} (ok:M.Ok K) (q:Quiet M) (s:ByteArray):Alike M (M.sync s).1:=by
 cases hg:bP M.now s with
 |none=>
  have:M.sync s=(M,9):=by unfold ay.sync;rw [q.off,hg];rfl
  rw [this];exact Alike.refl M
 |some i=>
  rw [q.Gx hg];refine ⟨rfl,rfl,rfl,fun p hp=>?_⟩;show ((M.iU i _).file p.2).now=_;rw [EX (ok.gG.ids _ (jF hg))];split
  ·rename_i e;rw [e];rfl
  ·rfl
theorem vP {M:ay} (q:Quiet M) (s:ByteArray) (b:Bs) :
  bP M.now s=none∧M.append s b=(M,9)∨∃ i,bP M.now s=some i∧((M.room:Int) - M.used<b.length∧M.append s b=(M,11)∨¬ (M.room:Int) - M.used<b.length∧M.append s b=(M.iU i ((M.file i).do ⟨false,0,b⟩),0)):=by
 unfold ay.append;rw [q.off,q.step];cases hg:bP M.now s with
 |none=>exact .inl ⟨rfl,rfl⟩
 |some i=>
  refine .inr ⟨i,rfl,?_⟩;simp only [afy,anY,Bool.true_eq_false];by_cases h:(M.room:Int) - M.used<b.length
  ·exact .inl ⟨h,by rw [acr h]⟩
  ·exact .inr ⟨h,by rw [abA h]⟩
theorem ER {M:ay} (q:Quiet M) (s:ByteArray) :
  (M.create s).2≠0∧(M.create s).2≠11∧(M.create s).1=M∨good s=true∧bP M.now s=none∧M.now.length<500∧M.create s=({ M with files:=M.files++[bH.new],now:=kC M.now s M.files.length,waits:=M.waits++[⟨ByteArray.empty,s,M.files.length⟩] },0):=by
 unfold ay.create;rw [q.off,q.step];simp only [afy,anY,Bool.true_eq_false];by_cases h1:good s=false
 ·rw [acr h1];exact .inl ⟨by simp,by simp,rfl⟩
 rw [abA h1];by_cases h2:(bP M.now s).isSome=true
 ·rw [acr h2];exact .inl ⟨by simp,by simp,rfl⟩
 rw [abA h2];by_cases h3:500≤M.now.length
 ·rw [acr h3];exact .inl ⟨by simp,by simp,rfl⟩
 rw [abA h3];have hg:good s=true:=by simpa using h1
 refine .inr ⟨hg,by simpa using h2,by omega,?_⟩;unfold ay.link iT.on;simp only [anJ,abA (qP hg)];rw [q.off]
theorem Gp {M:ay} (q:Quiet M){s:ByteArray}{i:Nat} (h:bP M.now s=some i):M.remove s=(M.link ⟨s,ByteArray.empty,0⟩,0):=by
 unfold ay.remove;rw [q.off,q.step,h];simp
theorem AX {l:Names}{s t:ByteArray} (h:s≠t):bP (gU l t) s=bP l s:=by
 induction l with
 |nil=>rfl
 |cons p l ih=>
  unfold bP gU at *
  rw [aie];by_cases e:p.1=t
  ·rw [abA (by simp [bne,nD,e])];rw [ih,List.find?_cons];have:(p.1==s)=false:=by rw [nD,e];exact ac4 (fun hh=>h hh.symm)
   rw [this]
  ·rw [acr (by simp [nD,bne,e]),List.find?_cons,List.find?_cons];cases (p.1==s)
   ·exact ih
   ·rfl
theorem aiF {l:Names}{s t:ByteArray}{i:Nat} (h:s≠t):bP (rF l t i) s=bP l s:=by
 have ht:(t==s)=false:=by rw [nD];exact ac4 (fun hh=>h hh.symm)
 induction l with
 |nil=>unfold rF bP;simp [ht]
 |cons p l ih=>
  unfold rF;split
  ·unfold bP;rw [List.find?_cons,ht]
  ·unfold bP at *
   rw [List.find?_cons,List.find?_cons];cases (p.1==s)
   ·exact ih
   ·rfl
theorem Di {l:Names}{s t:ByteArray}{i:Nat} (h:s≠t):bP (kC l t i) s=bP l s:=by
 unfold kC;rw [aiF h,AX h]
theorem Dj {l:Names} (hs:nC l) (s:ByteArray) (i:Nat):bP (kC l s i) s=some i:=
 Dh (hs.put s i).keys ((wo l s i).mem_iff.2 (.head _))
theorem aiq (l:Names) (s:ByteArray) (i:Nat):gU (rF l s i) s=gU l s:=by
 induction l with
 |nil=>unfold rF gU;simp [bne,nD]
 |cons p l ih=>
  unfold rF;split
  ·unfold gU;rw [aie,abA (by simp [bne,nD])]
  ·unfold gU at *
   rw [aie,aie,ih]
theorem PN {l:Names}{s:ByteArray}{i:Nat} (h:bP l s=none):gU (kC l s i) s=l:=by
 unfold kC;rw [aiq,yC h,yC h]
structure Calm (K room:Nat) (M:ay):Prop where
 ok:M.Ok K
 quiet:Quiet M
 dst:qW M
 used:M.used≤M.room
 room:M.room=room
section
variable {K r:Nat}{M:ay}{L:Log}
theorem Calm.mono {K':Nat} (h:Calm K r M) (hk:K≤K'):Calm K' r M:=⟨h.ok.mono hk,h.quiet,h.dst,h.used,h.room⟩
theorem Calm.new (K r:Nat) (h:r≤16777216):Calm K r (new r):=⟨ay.Ok.new K r h,Quiet.new r,List.nodup_nil,acV _,rfl⟩
theorem Calm.create (h:Calm K r M) (s:ByteArray):Calm (K+1) r (M.create s).1:=by
 have f:=(Fits.does h.ok h.dst h.used ⟨0,s,s,0,0,[],[]⟩ (show (0:Int)≠8 by decide) (show (0:Int)≠9 by decide)).1;exact ⟨h.ok.create s,h.quiet.create s,f.dst,f.used,f.room.trans h.room⟩
theorem Calm.append (h:Calm K r M) (s:ByteArray) (b:Bs):Calm (K+1) r (M.append s b).1:=by
 have f:=(Fits.does h.ok h.dst h.used ⟨1,s,s,0,0,b,[]⟩ (show (1:Int)≠8 by decide) (show (1:Int)≠9 by decide)).1;exact ⟨h.ok.append s b,h.quiet.append s b,f.dst,f.used,f.room.trans h.room⟩
theorem Calm.remove (h:Calm K r M) (s:ByteArray):Calm (K+1) r (M.remove s).1:=by
 have f:=(Fits.does h.ok h.dst h.used ⟨4,s,s,0,0,[],[]⟩ (show (4:Int)≠8 by decide) (show (4:Int)≠9 by decide)).1;exact ⟨h.ok.remove s,h.quiet.remove s,f.dst,f.used,f.room.trans h.room⟩
theorem Calm.sync (h:Calm K r M) (s:ByteArray):Calm (K+1) r (M.sync s).1:=by
 have f:=(Fits.does h.ok h.dst h.used ⟨5,s,s,0,0,[],[]⟩ (show (5:Int)≠8 by decide) (show (5:Int)≠9 by decide)).1;exact ⟨h.ok.sync s,h.quiet.sync s,f.dst,f.used,f.room.trans h.room⟩
theorem Calm.dR (h:Calm K r M):Calm K r M.dR.1:=by
 have f:=(Fits.does h.ok h.dst h.used ⟨6,ByteArray.empty,ByteArray.empty,0,0,[],[]⟩ (show (6:Int)≠8 by decide) (show (6:Int)≠9 by decide)).1;exact ⟨h.ok.dR,h.quiet.dR,f.dst,f.used,f.room.trans h.room⟩
def Has (L:Log) (M:ay):Prop:=∀ s∈L.l,∃ i,bP M.now (name s.1)=some i
structure Keeps (K r:Nat) (L:Log) (M:ay):Prop where
 log:L.Ok
 calm:Calm K r M
 has:Has L M
theorem Keeps.mono {K':Nat} (h:Keeps K r L M) (hk:K≤K'):Keeps K' r L M:=⟨h.log,h.calm.mono hk,h.has⟩
theorem Keeps.shut (h:Keeps K r L M):Keeps (K+1) r (L.shut M).1.1 (L.shut M).1.2∧(L.shut M).2=0∧(L.shut M).1.1.l=L.l∧(L.shut M).1.1.fresh=L.fresh∧Alike M (L.shut M).1.2:=by
 have iP:=h.log.shut M;cases hon:L.on with
 |false=>rw [Log.abf M hon]at iP ⊢;exact ⟨h.mono (ahD K),rfl,rfl,rfl,Alike.refl M⟩
 |true=>
  obtain ⟨s,hl⟩:=h.log.last hon;rw [Log.abg M hl hon]at iP ⊢;obtain ⟨i,hi⟩:=h.has s (agv hl);have e:=h.calm.quiet.Gx hi;have e2:(M.sync (name s.1)).2=0:=by rw [e]
  have ha:=KL h.calm.ok h.calm.quiet (name s.1);have hc:=h.calm.sync (name s.1);rw [acr e2]at iP ⊢;exact ⟨⟨iP,hc,fun t ht=>by rw [ha.now];exact h.has t ht⟩,rfl,rfl,rfl,ha⟩
theorem Keeps.jw (h:Keeps K r L M) (b:Bs) (hb:b.length≤16777216):Keeps (K+3) r (L.jw M b).1.1 (L.jw M b).1.2 ∧
  ((L.jw M b).2.2≠0→(L.jw M b).1.1=L∧Alike M (L.jw M b).1.2∧((L.jw M b).2.2=11→(M.room:Int) - M.used<b.length+8)):=by
 have iP:=h.log.jw M b hb;obtain ⟨n1,n2,n3⟩:=h.log.next;unfold Log.jw at iP ⊢;by_cases h1:1048576≤L.next
 ·rw [acr h1]at iP ⊢;exact ⟨h.mono oQ,fun _=>⟨rfl,Alike.refl M,fun hh=>by cases hh⟩⟩
 rw [abA h1]at iP ⊢;have hc1:=h.calm.create (name L.next);rcases ER h.calm.quiet (name L.next) with ⟨c1,c2,c3⟩|⟨hg,hn,hl,c⟩
 ·rw [acr c1]at iP ⊢;simp only [c3]at iP hc1 ⊢;exact ⟨h.mono oQ,fun _=>⟨by first|trivial|rfl,Alike.refl M,fun hh=>absurd hh c2⟩⟩
 have c0:(M.create (name L.next)).2=0:=by rw [c]
 rw [abA (fun hh=>hh c0)]at iP ⊢;have hself:bP (M.create (name L.next)).1.now (name L.next)=some M.files.length:=by
  rw [c];exact Dj h.calm.ok.gG.mG _ _
 have FK:(M.create (name L.next)).1.used=M.used∧(M.create (name L.next)).1.room=M.room:=by
  refine ⟨?_,by rw [c]⟩;rw [c];show ((kC M.now (name L.next) M.files.length).map fun p=>((M.files++[bH.new]).getD p.2 bH.new).now.length).sum=_;rw [DI _ _ _ (fun j=>((M.files++[bH.new]).getD j bH.new).now.length),yC hn];have e0:((M.files++[bH.new]).getD M.files.length bH.new).now.length=0:=by simp [bH.new]
  rw [e0,acT];refine ay.KH (g:=fun j=>((M.files++[bH.new]).getD j bH.new).now.length) (h:=fun j=>(M.file j).now.length) fun p hp=>?_;have:=h.calm.ok.gG.ids p hp;simp only [ay.file,acG];rw [ac2 this]
 have hhas:Has L (M.create (name L.next)).1:=fun s hs=>by
  obtain ⟨i,hi⟩:=h.has s hs;rw [c];refine ⟨i,?_⟩;show bP (kC M.now (name L.next) M.files.length) (name s.1)=_;rw [Di (fun e=>by rw [e,hn]at hi;cases hi)];exact hi
 have hc2:=hc1.append (name L.next) (mag++b);rcases vP hc1.quiet (name L.next) (mag++b) with ⟨a1,_⟩|⟨i,a1,⟨a2,a3⟩|⟨a2,a3⟩⟩
 ·rw [hself]at a1;cases a1
 ·have e1:((M.create (name L.next)).1.append (name L.next) (mag++b)).2=11:=by rw [a3]
  have e1':¬ ((M.create (name L.next)).1.append (name L.next) (mag++b)).2=0:=by rw [e1];decide
  have e2:((M.create (name L.next)).1.append (name L.next) (mag++b)).1=(M.create (name L.next)).1:=by rw [a3]
  have e3:=Gp hc1.quiet hself;have hc3:=hc1.remove (name L.next);rw [abA e1',acr e1]at iP ⊢;rw [e2]at *
  have e4:((M.create (name L.next)).1.remove (name L.next)).2=0:=by rw [e3]
  have ha:Alike M ((M.create (name L.next)).1.remove (name L.next)).1:=by
   rw [e3,c];refine ⟨?_,rfl,rfl,fun p hp=>?_⟩
   ·show iT.on ⟨name L.next,ByteArray.empty,0⟩ (kC M.now (name L.next) M.files.length)=M.now;unfold iT.on;simp only [abA (qP hg),anJ];exact PN hn
   ·have:=h.calm.ok.gG.ids p hp;simp only [ay.file,ay.link,acG];rw [ac2 this]
  refine ⟨⟨iP,hc3.mono oQ,fun s hs=>by rw [ha.now];exact h.has s hs⟩,fun _=>⟨rfl,ha,fun _=>?_⟩⟩;rw [FK.1,FK.2,aaK]at a2;have:mag.length=8:=rfl;omega
 ·have e1:((M.create (name L.next)).1.append (name L.next) (mag++b)).2=0:=by rw [a3]
  rw [acr e1]at iP ⊢;refine ⟨⟨iP,hc2.mono oQ,fun s hs=>?_⟩,fun hh=>absurd rfl hh⟩;rw [a3];show ∃ j,bP (M.create (name L.next)).1.now (name s.1)=some j;rcases ac3.1 hs with hs|hs
  ·exact hhas s hs
  ·rw [acO.1 hs];exact ⟨_,hself⟩
theorem Keeps.begin (h:Keeps K r L M) (b:Bs) (hb:b.length≤16777216):Keeps (K+4) r (L.begin M b).1.1 (L.begin M b).1.2 ∧
  ((L.begin M b).2.2≠0→(L.begin M b).1.1.l=L.l∧(L.begin M b).1.1.fresh=L.fresh∧Alike M (L.begin M b).1.2∧((L.begin M b).2.2=11→(M.room:Int) - M.used<b.length+8)):=by
 obtain ⟨h1,h2,h3,h4,h5⟩:=h.shut;unfold Log.begin;rw [acr h2];obtain ⟨k1,k2⟩:=h1.jw b hb;refine ⟨k1,fun hh=>?_⟩;obtain ⟨k3,k4,k5⟩:=k2 hh;rw [k3];exact ⟨h3,h4,h5.trans k4,fun e=>by rw [← h5.used,← h5.room];exact k5 e⟩
theorem Keeps.grow (h:Keeps K r L M) (b:Bs) (hf:L.fits b.length=true):Keeps (K+1) r (L.grow M b).1.1 (L.grow M b).1.2 ∧
  ((L.grow M b).2.2≠0→(L.grow M b).1.1=L∧Alike M (L.grow M b).1.2∧((L.grow M b).2.2=11→(M.room:Int) - M.used<b.length)):=by
 have iP:=h.log.grow M b hf;unfold Log.grow at iP ⊢;cases hl:L.l.getLast? with
 |none=>exact ⟨h.mono (ahD K),fun hh=>absurd rfl hh⟩
 |some s=>
  rw [hl]at iP;simp only at iP ⊢;have hc:=h.calm.append (name s.1) b;obtain ⟨j,hj⟩:=h.has s (agv hl);rcases vP h.calm.quiet (name s.1) b with ⟨a1,_⟩|⟨i,a1,⟨a2,a3⟩|⟨a2,a3⟩⟩
  ·rw [hj]at a1;cases a1
  ·rw [a3]at iP hc ⊢;rw [abA (show ¬ ((M,(11:Int)).2=0) from (by simp))]at iP ⊢;exact ⟨h.mono (ahD K),fun _=>⟨rfl,Alike.refl M,fun _=>a2⟩⟩
  ·rw [a3]at iP hc ⊢;rw [acr rfl]at iP ⊢;refine ⟨⟨iP,hc,fun t ht=>?_⟩,fun hh=>absurd rfl hh⟩;show ∃ j,bP M.now (name t.1)=some j;rcases ac3.1 ht with ht|ht
   ·exact h.has t ((List.dropLast_subset _ ht))
   ·rw [acO.1 ht];exact ⟨j,hj⟩
theorem BD {x:ah.aG} (h:(ah.encode x).2=0) (hk:x.key.length=32):(ah.encode x).1.length=ah.size x:=by
 unfold ah.encode at *
 split at h
 ·rename_i hc;exact absurd h hc
 ·rename_i hc;rw [abA hc];unfold ah.body ah.size;simp only [aaK,ah.kJ,ac7,abA hc];split
  ·rename_i ht;have:x.data.length=0:=by
    simp only [Decidable.not_not]at hc;unfold ah.check at hc;rw [ht]at hc;simp only [show ¬ ((2:Int)=0) by decide,anY,anJ]at hc;split at hc
    ·cases hc
    split at hc
    ·cases hc
    omega
   simp;omega
  ·omega
theorem Keeps.append (h:Keeps K r L M) (x:ah.aG) (hk:x.key.length=32):Keeps (K+4) r (L.append M x).1.1 (L.append M x).1.2 ∧
  ((L.append M x).2.2≠0→(L.append M x).1.1.l=L.l∧(L.append M x).1.1.fresh=L.fresh∧Alike M (L.append M x).1.2∧((L.append M x).2.2=11→(M.room:Int) - M.used<ah.size x+8)):=by
 have hl:=encode_len x hk;by_cases h1:(ah.encode x).2=0
 ·have hz:=BD h1 hk;cases hf:L.fits (ah.encode x).1.length with
  |true=>
   rw [Log.zL h1 hf];obtain ⟨k1,k2⟩:=h.grow _ hf;refine ⟨k1.mono oQ,fun hh=>?_⟩;obtain ⟨k3,k4,k5⟩:=k2 hh;rw [k3];exact ⟨rfl,rfl,k4,fun e=>by have:=k5 e;omega⟩
  |false=>
   rw [Log.xF h1 hf];obtain ⟨k1,k2⟩:=h.begin _ (by omega:(ah.encode x).1.length≤16777216);exact ⟨k1,fun hh=>by rw [← hz];exact k2 hh⟩
 ·rw [Log.IE h1];refine ⟨h.mono oQ,fun _=>⟨rfl,rfl,Alike.refl M,fun e=>?_⟩⟩;exfalso;have e':(ah.encode x).2=11:=e;unfold ah.encode at e';split at e'
  ·simp only at e';unfold ah.check at e'
   repeat' split at e'
   all_goals cases e'
  ·cases e'
theorem U3 (h:Keeps K r L M) (x:ah.aG) (hk:x.key.length=32) (h0:(L.append M x).2.2=0):∃ i,bP (L.append M x).1.2.now (name (L.append M x).2.1.seg)=some i:=by
 have hK:=(h.append x hk).1;have key:∃ s,(L.append M x).1.1.l.getLast?=some s∧s.1=(L.append M x).2.1.seg:=by
  by_cases h1:(ah.encode x).2=0
  ·cases hf:L.fits (ah.encode x).1.length with
   |true=>
    rw [Log.zL h1 hf]at h0 ⊢;unfold Log.grow at h0 ⊢;cases hl:L.l.getLast? with
    |none=>
     exfalso;unfold Log.fits at hf;rw [adg]at hf;exact h.log.on hf.1 (ank.1 hl)
    |some s=>
     rw [hl]at h0;simp only at h0 ⊢;split at h0
     ·rename_i e;rw [acr e];exact ⟨(s.1,s.2+((ah.encode x).1.length:Int)),by simp,rfl⟩
     ·rename_i e;exact absurd h0 e
   |false=>
    rw [Log.xF h1 hf]at h0 ⊢;unfold Log.begin at h0 ⊢;split at h0
    ·rename_i e;rw [acr e];unfold Log.jw at h0 ⊢;split at h0
     ·cases h0
     rename_i e1;rw [abA e1];split at h0
     ·rename_i e2;exact absurd h0 e2
     rename_i e2;rw [abA e2];split at h0
     ·rename_i e3;rw [acr e3];exact ⟨((L.shut M).1.1.next,8+((ah.encode x).1.length:Int)),by simp,rfl⟩
     ·split at h0
      ·rename_i e3 e4;simp only at h0;split at h0
       ·cases h0
       ·rename_i e5;exact absurd h0 e5
      ·rename_i e3 e4;exact absurd h0 e3
    ·rename_i e;exact absurd h0 e
  ·rw [Log.IE h1]at h0;exact absurd h0 h1
 obtain ⟨s,hs,e⟩:=key;rw [← e];exact hK.has s (agv hs)
theorem Keeps.commit (h:Keeps K r L M):Keeps (K+5) r (L.commit M).1.1 (L.commit M).1.2:=by
 obtain ⟨k1,_⟩:=h.append bf rfl;have iP:=h.log.commit M;rw [Log.Cj]at iP ⊢;split
 ·exact k1.mono oQ
 rename_i e1;rw [abA e1]at iP;simp only [Decidable.not_not]at e1;obtain ⟨i,hi⟩:=U3 h bf rfl e1;have es:=k1.calm.quiet.Gx hi;have hc2:=k1.calm.sync (name (L.append M bf).2.1.seg);have hs2:((L.append M bf).1.2.sync (name (L.append M bf).2.1.seg)).2=0:=by rw [es]
 rw [abA (fun hh=>hh hs2)]at iP ⊢;have hd:=hc2.quiet.Gw;have hd2:(((L.append M bf).1.2.sync (name (L.append M bf).2.1.seg)).1.dR).2=0:=by rw [hd]
 rw [abA (fun hh=>hh hd2)]at iP ⊢;refine ⟨iP,hc2.dR,fun s hs=>?_⟩;obtain ⟨j,hj⟩:=k1.has s hs;refine ⟨j,?_⟩;show bP (((L.append M bf).1.2.sync (name (L.append M bf).2.1.seg)).1.dR).1.now (name s.1)=some j;rw [hd];show bP ((L.append M bf).1.2.sync (name (L.append M bf).2.1.seg)).1.now (name s.1)=some j;rw [es];exact hj
theorem alu (h:Calm K r M) (n:Nat) (h1:M.used≤n) (h2:n≤16777216):M.jR n=({ M with room:=n },0)∧Calm K n { M with room:=n }:=by
 have e:M.jR n=({ M with room:=n },0):=by
  unfold ay.jR;rw [h.quiet.off,abA aN,abA oQ]
  rfl
 have hok:=h.ok.jR (n:Int);rw [e]at hok;exact ⟨e,hok,⟨h.quiet.armed,h.quiet.off,h.quiet.left⟩,h.dst,h1,rfl⟩
end
end Go.Seg
namespace Go.Seg
theorem JM (n:Int) (h1:0≤n) (h2:n<1048576):number (name n)=(n,true):=by
 unfold name;rw [abA oQ];unfold number;have hl:(lead++iO n.toNat 8).length=12:=by rw [aaK,vU];rfl
 have hd:(lead++iO n.toNat 8).drop 4=iO n.toNat 8:=rfl;have ht:(lead++iO n.toNat 8).take 4=lead:=rfl;have hv:=amH 8 n.toNat oQ;simp only [hl,hd,ht,NS,hv,true_and];rw [acr oQ];simp only [Prod.mk.injEq,and_true];omega
end Go.Seg
namespace Go.Proofs.YtihngncbioofnaaGreatDoor
open Go Go.Sl Go.ay Go.MapKept Go.RowKit
section
variable {w0 w:World}{F:List aH}
end
end Go.Proofs.YtihngncbioofnaaGreatDoor
namespace Go.ah
theorem Xa {l:Bs} (h:l.length=4):∃ c0 c1 c2 c3,l=[c0,c1,c2,c3]:=by
 match l,h with
 |[c0,c1,c2,c3],_=>exact ⟨c0,c1,c2,c3,rfl⟩
theorem ES {x:aG} (h:(encode x).2=0):check x=0∧(encode x).1=le (crc (body x)) 4++body x:=by
 unfold encode at *
 split at h
 ·rename_i hc;exact absurd h hc
 ·rename_i hc;rw [abA hc];exact ⟨by simpa using hc,rfl⟩
theorem EO {x:aG} (h:check x=0):x.tag=0∧x.data.length≤16384∨x.tag=2∧x.key=zero32∧x.data=[]∨x.tag=1∧x.data=[]:=by
 unfold check at h;split at h
 ·rename_i t;split at h
  ·cases h
  ·exact .inl ⟨t,by omega⟩
 split at h
 ·rename_i t;split at h
  ·cases h
  rename_i hk;split at h
  ·cases h
  rename_i hd;exact .inr (.inl ⟨t,by simpa using hk,agl oQ⟩)
 split at h
 ·rename_i t;split at h
  ·cases h
  rename_i hd;exact .inr (.inr ⟨t,agl oQ⟩)
 ·cases h
theorem Qu {x:aG} (h:(encode x).2=0) (hk:x.key.length=32) (rest:Bs):read ((encode x).1++rest)=(x,(encode x).1.length,0):=by
 have hz:=Seg.BD h hk;obtain ⟨hc,he⟩:=ES h;have hs:size x=9∨41≤size x:=by
  unfold size;rw [abA (by simp [hc])];by_cases ht:x.tag=2
  ·rw [acr ht];omega
  ·rw [abA ht];omega
 have hs2:size x≤16425:=by
  rcases EO hc with ⟨t,d⟩|⟨t,k,d⟩|⟨t,d⟩
  all_goals
   unfold size;rw [abA (by simp [hc])];by_cases ht:x.tag=2
   ·rw [acr ht];omega
   ·rw [abA ht]
    first|omega|(rw [d];simp)
 obtain ⟨c0,c1,c2,c3,hC⟩:=Xa (kJ (crc (body x)) 4);obtain ⟨s0,s1,s2,s3,hS⟩:=Xa (kJ (size x) 4);have hnum:num [s0,s1,s2,s3]=size x:=by rw [← hS];exact JK 4 _ oQ
 have Aq:num [c0,c1,c2,c3]=crc (body x):=by rw [← hC];exact JK 4 _ (NQ _)
 have hb:body x=[s0,s1,s2,s3]++(UInt8.ofNat x.tag.toNat::((if x.tag=2 then [] else x.key)++x.data)):=by unfold body;rw [hS];simp
 have hE:(encode x).1=c0::c1::c2::c3::s0::s1::s2::s3::UInt8.ofNat x.tag.toNat::((if x.tag=2 then [] else x.key)++x.data):=by rw [he,hC,hb];rfl
 have hlen:((if x.tag=2 then [] else x.key)++x.data).length+9=size x:=by rw [← hz,hE];simp
 have hT:UInt8.ofNat x.tag.toNat=0∧x.tag=0∧41≤size x∨UInt8.ofNat x.tag.toNat=1∧x.tag=1∧size x=41∨UInt8.ofNat x.tag.toNat=2∧x.tag=2∧size x=9:=by
  rcases EO hc with ⟨t,d⟩|⟨t,k,d⟩|⟨t,d⟩
  ·left;rw [t];refine ⟨rfl,rfl,?_⟩;unfold size;rw [abA (by simp [hc]),abA (by rw [t];decide)];omega
  ·right;right;rw [t];refine ⟨rfl,rfl,?_⟩;unfold size;rw [abA (by simp [hc]),acr t]
  ·right;left;rw [t];refine ⟨rfl,rfl,?_⟩;unfold size;rw [abA (by simp [hc]),abA (by rw [t];decide),d];rfl
 have hfit:fits (UInt8.ofNat x.tag.toNat) (size x)=true:=by
  rcases hT with ⟨a,_,b⟩|⟨a,_,b⟩|⟨a,_,b⟩
  ·rw [a];unfold fits;rw [acr rfl,acF];omega
  ·rw [a];unfold fits;rw [abA aN,acr rfl,acF];omega
  ·rw [a];unfold fits;rw [abA aN,abA aN,acr rfl,acF];omega
 generalize hP:(if x.tag=2 then [] else x.key)++x.data=P at *
 generalize hG:UInt8.ofNat x.tag.toNat=T at *
 have hL:((encode x).1++rest)=c0::c1::c2::c3::s0::s1::s2::s3::T::(P++rest):=by rw [hE];rfl
 have hll:(c0::c1::c2::c3::s0::s1::s2::s3::T::(P++rest)).length=size x+rest.length:=by simp;omega
 have htk:(c0::c1::c2::c3::s0::s1::s2::s3::T::(P++rest)).take (size x)=c0::c1::c2::c3::s0::s1::s2::s3::T::P:=by
  have:c0::c1::c2::c3::s0::s1::s2::s3::T::(P++rest)=(c0::c1::c2::c3::s0::s1::s2::s3::T::P)++rest:=rfl;rw [this,ado (by simp;omega),acX (by simp;omega)]
 rw [hz,hL];unfold read;dsimp only;rw [abA (by rw [hll];omega)];have hn:num (((c0::c1::c2::c3::s0::s1::s2::s3::T::(P++rest)).drop 4).take 4)=size x:=hnum;have h8:(c0::c1::c2::c3::s0::s1::s2::s3::T::(P++rest)).getD 8 0=T:=rfl;have h4:num ((c0::c1::c2::c3::s0::s1::s2::s3::T::(P++rest)).take 4)=crc (body x):=Aq;rw [hn,h8,hfit,abA aN,abA (by rw [hll];omega),htk,h4];have hdr:(c0::c1::c2::c3::s0::s1::s2::s3::T::P).drop 4=body x:=by rw [hb];rfl
 rw [hdr,abA (by simp)];have h9:(c0::c1::c2::c3::s0::s1::s2::s3::T::(P++rest)).drop 9=P++rest:=rfl;have sK:(c0::c1::c2::c3::s0::s1::s2::s3::T::P).drop 41=P.drop 32:=rfl;rw [h9,sK];rcases hT with ⟨a,t,b⟩|⟨a,t,b⟩|⟨a,t,b⟩
 ·rw [acr b];rw [abA (by rw [t];decide)]at hP;have e1:(P++rest).take 32=x.key:=by rw [← hP,acD,ado oQ,acX oQ]
  have e2:P.drop 32=x.data:=by rw [← hP,aou,adp oQ,hk];simp
  rw [e1,e2,a];obtain ⟨tag,key,data⟩:=x;simp only at t ⊢;rw [t];rfl
 ·rw [acr oQ];rw [abA (by rw [t];decide)]at hP;have e1:(P++rest).take 32=x.key:=by rw [← hP,acD,ado oQ,acX oQ]
  have e2:P.drop 32=x.data:=by rw [← hP,aou,adp oQ,hk];simp
  rw [e1,e2,a];obtain ⟨tag,key,data⟩:=x;simp only at t ⊢;rw [t];rfl
 ·rw [abA oQ,a];rcases EO hc with ⟨t',d⟩|⟨t',k,d⟩|⟨t',d⟩
  ·rw [t]at t';cases t'
  ·obtain ⟨tag,key,data⟩:=x;simp only at t k d ⊢;rw [t,k,d];rfl
  ·rw [t]at t';cases t'
def encs (l:List aG):Bs:=l.flatMap fun x=>(encode x).1
def fH (x:aG):Prop:=(encode x).2=0∧x.key.length=32
def dN:List aG→Nat→List dA
 |[],_=>[]
 |x::l,at_=>⟨x,at_,(encode x).1.length⟩::dN l (at_+(encode x).1.length)
theorem xW:∀ (l:List aG) (at_:Nat),(dN l at_).map (·.e)=l
 |[],_=>rfl
 |x::l,at_=>by rw [dN,acS,xW l]
theorem Wu {x:aG} (h:fH x):0<(encode x).1.length:=amK.2 (Seg.Ws x h.1)
theorem aa1:∀ (l:List aG) (k at_:Nat),(∀ x∈l,fH x)→(encs l).length≤k→oh k (encs l) at_=(dN l at_,at_+(encs l).length,0)
 |[],k,at_,_,_=>by
  cases k with
  |zero=>rfl
  |succ k=>rfl
 |x::l,k,at_,hg,hk=>by
  have h1:=hg x (.head _);have e:encs (x::l)=(encode x).1++encs l:=rfl;have hp:=Wu h1;rw [e,aaK]at hk;cases k with
  |zero=>omega
  |succ k=>
   have hr:=Qu h1.1 h1.2 (encs l);have hd:((encode x).1++encs l).drop (encode x).1.length=encs l:=by simp
   rw [e];unfold oh;rw [abA (by intro hh;have:=adu List.length hh;rw [aaK]at this;simp only [adF]at this;omega),hr];simp only [ne_eq,not_true_eq_false,anY,hd];rw [aa1 l k (at_+(encode x).1.length) (fun y hy=>hg y (.tail _ hy)) oQ];simp only [dN,aaK,an9]
theorem Ku (l:List aG) (hg:∀ x∈l,fH x):scan (Seg.mag++encs l)=(dN l 8,(Seg.mag++encs l).length,0):=by
 unfold scan;rw [acr aj];have e:(Seg.mag++encs l).drop 8=encs l:=rfl;rw [e,aa1 l _ 8 hg (by rw [aaK];omega),aaK]
 rfl
end Go.ah
namespace Go.Seg
open Go.ay
open Go.ah (encs fH)
theorem AU {a b:Int} (ha:0≤a) (ha2:a<1048576) (hb:0≤b) (hb2:b<1048576) (h:name a=name b):a=b:=by
 have h1:=JM a ha ha2;have h2:=JM b hb hb2;rw [h]at h1;rw [h1]at h2;exact adu Prod.fst h2
theorem Oi (n:Int) (h1:0≤n) (h2:n<1048576):good (name n)=true:=by
 unfold name;rw [abA oQ];unfold good;have hl:(lead++iO n.toNat 8).length=12:=by rw [aaK,vU];rfl
 have hs:(⟨(lead++iO n.toNat 8).toArray⟩:ByteArray).size=12:=by show (lead++iO n.toNat 8).toArray.size=12;simp [hl]
 rw [hs];simp only [ahh];have hd:(iO n.toNat 8).all nU=true:=by
  rw [aeD];intro c hc;have:=(aeD.1 (NS 8 n.toNat)) c hc;unfold l9 at this;rw [adg,acF,acF]at this;unfold nU;have e1:(48:UInt8)≤c:=UInt8.le_iff_toNat_le.2 this.1;have e2:c≤57:=UInt8.le_iff_toNat_le.2 this.2;simp [e1,e2]
 rw [hd]
 rfl
theorem afw {M:ay}{K r:Nat} (h:Calm K r M){s t:ByteArray}{i:Nat} (h1:bP M.now s=some i) (h2:bP M.now t=some i):t=s:=by
 by_cases e:t=s
 ·exact e
 ·exfalso;have:=(SG h.ok.gG.mG h.dst h1).1 (t,i) (acY.2 ⟨jF h2,by simpa [bne,nD] using e⟩);exact this rfl
theorem all_some {M:ay} (q:Quiet M){s:ByteArray}{i:Nat} (h:bP M.now s=some i):M.all s=((M.file i).now,0):=by
 unfold ay.all;rw [q.off,h];rfl
theorem all_none {M:ay} (q:Quiet M){s:ByteArray} (h:bP M.now s=none):M.all s=([],9):=by
 unfold ay.all;rw [q.off,h];rfl
section
variable {K r:Nat}{M:ay}{L:Log}
theorem II (h:Calm K r M){s:ByteArray}{i:Nat} (hi:bP M.now s=some i) (b:Bs) (hr:M.used+b.length≤M.room) :
  (M.append s b).2=0∧(M.append s b).1.now=M.now∧(M.append s b).1.used=M.used+b.length∧(M.append s b).1.all s=((M.all s).1++b,0)∧∀ t,t≠s→(M.append s b).1.all t=M.all t:=by
 have hlt:i<M.files.length:=h.ok.gG.ids _ (jF hi);rcases vP h.quiet s b with ⟨a1,_⟩|⟨j,a1,⟨a2,a3⟩|⟨a2,a3⟩⟩
 ·rw [hi]at a1;cases a1
 ·exfalso;omega
 rw [hi]at a1;cases a1;have hq:=(h.append s b).quiet;rw [a3]at hq ⊢;refine ⟨rfl,rfl,?_,?_,fun t ht=>?_⟩
 ·have:=abU h.ok h.dst hi ((M.file i).do ⟨false,0,b⟩);have e:((M.file i).do ⟨false,0,b⟩).now.length=(M.file i).now.length+b.length:=by simp [bH.do,jd.on]
  rw [e]at this;show (M.iU i _).used=_;omega
 ·rw [all_some hq (show bP (M.iU i _).now s=some i from hi),all_some h.quiet hi];show (((M.iU i _).file i).now,(0:Int))=_;rw [EX hlt,acr rfl];rfl
 ·cases hj:bP M.now t with
  |none=>rw [all_none hq (show bP (M.iU i _).now t=none from hj),all_none h.quiet hj]
  |some j=>
   rw [all_some hq (show bP (M.iU i _).now t=some j from hj),all_some h.quiet hj];show (((M.iU i _).file j).now,(0:Int))=_;rw [EX hlt,abA (fun e=>ht (afw h hi (by rw [← e];exact hj)))]
theorem I4 (h:Calm K r M){s:ByteArray} (hg:good s=true) (hn:bP M.now s=none) (hl:M.now.length<500) :
  (M.create s).2=0∧(M.create s).1.now=kC M.now s M.files.length∧(M.create s).1.used=M.used∧(M.create s).1.all s=([],0)∧∀ t,t≠s→(M.create s).1.all t=M.all t:=by
 rcases ER h.quiet s with ⟨c1,c2,c3⟩|⟨_,_,_,c⟩
 ·exfalso;apply c1;unfold ay.create;rw [h.quiet.off,h.quiet.step,hg,hn];simp only [afy,anY,Bool.true_eq_false,Option.isSome_none];rw [abA oQ]
 have hq:=(h.create s).quiet;rw [c]at hq ⊢;refine ⟨rfl,rfl,?_,?_,fun t ht=>?_⟩
 ·show ((kC M.now s M.files.length).map fun p=>((M.files++[bH.new]).getD p.2 bH.new).now.length).sum=_;rw [DI _ _ _ (fun j=>((M.files++[bH.new]).getD j bH.new).now.length),yC hn];have e0:((M.files++[bH.new]).getD M.files.length bH.new).now.length=0:=by simp [bH.new]
  rw [e0,acT];refine ay.KH (g:=fun j=>((M.files++[bH.new]).getD j bH.new).now.length) (h:=fun j=>(M.file j).now.length) fun p hp=>?_;have:=h.ok.gG.ids p hp;simp only [ay.file,acG];rw [ac2 this]
 ·refine (all_some hq (i:=M.files.length) (Dj h.ok.gG.mG _ _)).trans ?_;simp [ay.file,bH.new]
 ·have e:=Di (l:=M.now) (i:=M.files.length) ht;cases hj:bP M.now t with
  |none=>rw [hj]at e;exact (all_none hq e).trans (all_none h.quiet hj).symm
  |some j=>
   rw [hj]at e;refine (all_some hq e).trans ?_;rw [all_some h.quiet hj];have:=h.ok.gG.ids _ (jF hj);simp only [ay.file,acG];rw [ac2 this]
theorem aao (q:Quiet M){s:ByteArray}{l:Bs} (h:M.all s=(l,0)){a n:Nat} (hn:a+n≤l.length):M.read s a n=((l.drop a).take n,0):=by
 unfold ay.all at h;unfold ay.read;rw [q.off]at h ⊢;simp only [afy,anY]at h ⊢;split at h
 ·cases h
 ·rename_i i hi;cases h;rw [abA oQ,abA oQ];simp
theorem Log.alB (L:Log) (M:ay):(L.shut M).1.1.limit=L.limit:=by
 unfold Log.shut;split
 ·rfl
 split
 ·split <;> rfl
 ·rfl
structure Holds (n:Nat) (L:Log) (M:ay) (C:List (List ah.aG)):Prop where
 keeps:Keeps (n * 5) 1048576 L M
 len:L.l.length=C.length
 at_:∀ (k:Nat) (es:List ah.aG),C[k]?=some es→L.l[k]?=some ((k:Int),8+((encs es).length:Int))
 file:∀ (k:Nat) (es:List ah.aG),C[k]?=some es→M.all (name k)=(mag++encs es,0)
 good:∀ es∈C,(∀ x∈es,fH x)∧es≠[]
 fit:∀ es∈C,8+((encs es).length:Int)≤L.limit∨es.length=1
 count:C.length≤n
 used:M.used≤n * 400
 names:M.now.length≤n
 only:∀ (s:ByteArray) (i:Nat),bP M.now s=some i→∃ k:Nat,k<C.length∧s=name k
def put (C:List (List ah.aG)) (on:Bool) (x:ah.aG):List (List ah.aG):=if on then C.dropLast++[C.getLastD []++[x]] else C++[[x]]
theorem Jy {C:List (List ah.aG)} (h:C≠[]):C=C.dropLast++[C.getLastD []]:=by
 conv=>lhs;rw [← List.dropLast_concat_getLast h]
 rw [List.getLastD_eq_getLast?,List.getLast?_eq_some_getLast h];rfl
theorem aad (C:List (List ah.aG)) (on:Bool) (x:ah.aG) (h:on=true→C≠[]):(put C on x).flatten=C.flatten++[x]:=by
 unfold put;cases on with
 |false=>simp
 |true=>
  have e:=Jy (h rfl);simp only [anJ]
  conv=>rhs;rw [e]
  simp only [List.flatten_append,anI,List.flatten_nil,acM,acD]
theorem xP (a b:List ah.aG):encs (a++b)=encs a++encs b:=by unfold encs;rw [adz]
theorem ET (x:ah.aG):encs [x]=(ah.encode x).1:=by unfold encs;simp
variable {n:Nat}{C:List (List ah.aG)}
theorem afD {x:ah.aG} (h0:(ah.encode x).2=0) (hk:x.key.length=32) (hd:x.data.length≤300):(ah.encode x).1.length≤341:=by
 rw [BD h0 hk];unfold ah.size;split
 ·omega
 ·split <;> omega
end
end Go.Seg
namespace Go.Seg
structure Cal where
 kind:Int
 e:ah.aG
 n:Int
 p:aU
 l:List Int
def Cal.cut (c:Cal):Cal:=⟨c.kind,ah.VP 300 c.e,c.n,c.p,c.l.take 60⟩
end Go.Seg
namespace Go.Proofs.YtihngncbioofnaaGreatDoor
open Go Go.Sl Go.ay Go.MapKept Go.RowKit
section
variable {w0 w:World}{F R:List aH}{v bv dv x lv:Value}
theorem ajK {k:Nat}{l:List Int}{a:Option Addr}{n c:Nat} (h:bG 1 (.slice a n c) (ints l) w):bG 1 (.slice a (min n k) c) (ints (l.take k)) w:=by
 obtain ⟨a',n',c',he,hl,hx⟩:=h;cases he;have hil:∀ l:List Int,(ints l).length=l.length:=fun l=>abl ..;rw [hil,adb]at hl;refine ⟨a,_,c,rfl,by rw [hil,acA];omega,fun j y hj=>?_⟩;have hj':(ints l)[j]?=some y:=by
  unfold ints at hj ⊢;rw [anw,adC]at hj;split at hj
  ·exact hj
  ·cases hj
 exact hx j y hj'
end
section
variable {w0 w:World}{F R:List aH}{v bv dv x lv:Value}
theorem SL (x lo hi:Int) (h:lo≤hi):lo≤within x lo hi∧within x lo hi≤hi:=by
 unfold within;split
 ·exact ⟨an2 _,h⟩
 ·split <;> omega
end
end Go.Proofs.YtihngncbioofnaaGreatDoor
namespace Go.Seg
open Go.ay
theorem EN {K:Nat}{L:Log}{M:ay} (h:M.Ok K) (n:Int):(L.bytes M n).1.length≤16777216:=by
 unfold Log.bytes;split
 ·simp
 ·unfold ay.all;split
  ·simp
  split
  ·simp
  ·exact (h.file _).uN
end Go.Seg
namespace Go.Seg
open Go.ay
open Go.ah (encs fH)
section
variable {n:Nat}{M:ay}{L:Log}{C:List (List ah.aG)}
def aeQ (C:List (List ah.aG)):Prop:=∀ es∈C,∀ (k:Nat) (x:ah.aG),es[k]?=some x→x.tag=2→k+1=es.length
def aiG (es:List ah.aG):Prop:=∀ x∈es,x.tag≠2
structure Tail (on:Bool) (C:List (List ah.aG)):Prop where
 last:aeQ C
 tail:on=true→aiG (C.getLastD [])
theorem xU {k:Nat} (h:L.fits k=true):L.on=true:=by
 unfold Log.fits at h;rw [adg]at h;exact h.1
end
end Go.Seg
namespace Go.Proofs.YtihngncbioofnaaGreatDoor
open Go Go.Sl Go.ay Go.MapKept Go.RowKit
section
variable {w0 w:World}{F R:List aH}{v bv dv x lv:Value}
theorem N9 {fs:List (ah.dA×Value)}{v:Value} (hk:∀ p∈fs,p.1.e.key.length=32) (h:Sat w0 w (aB 54 36 v (jD fs)::R)):∃ a c,v = .slice a fs.length c:=by
 obtain ⟨a,n,c,rfl,hl,hx⟩:=Sat.rd h;rw [WR hk]at hl;obtain rfl:n=fs.length:=by omega
 exact ⟨a,c,rfl⟩
theorem VU:∀ (fs:List (ah.dA×Value)) (i:Nat) (p:ah.dA×Value),fs[i]?=some p→∃ G,kN fs=star (bK p.2 p.1.e.data) G
 |[],_,_,h=>by cases h
 |x::fs,0,p,h=>by
  obtain rfl:x=p:=by simpa using h
  exact ⟨_,rfl⟩
 |x::fs,i+1,p,h=>by
  obtain ⟨G,hG⟩:=VU fs i p (by simpa using h);refine ⟨star (bK x.2 x.1.e.data) G,?_⟩;show star (bK x.2 x.1.e.data) (kN fs)=_;rw [hG,uY]
theorem I5 {fs:List (ah.dA×Value)}{i:Nat}{p:ah.dA×Value} (h:fs[i]?=some p):Ro w0 (kN fs::R) (bG 1 p.2 (aA p.1.e.data)):=fun w hw=>by
 obtain ⟨G,hG⟩:=VU fs i p h;rw [hG]at hw;exact Sat.rd (Sat.star.1 hw)
theorem NC {l:Bs} (h:Sat w0 w (bK v l::R)):lQ v∧∃ a c,v = .slice a l.length c:=by
 refine ⟨aew h,?_⟩;obtain ⟨a,n,c,rfl,_,_,rfl⟩:=EM h;exact ⟨a,c,rfl⟩
end
end Go.Proofs.YtihngncbioofnaaGreatDoor
namespace Go.ah
theorem aa0:∀ (k:Nat) (b:Bs) (at_:Nat),(oh k b at_).1.length≤k
 |0,_,_=>abL 0
 |k+1,b,at_=>by
  unfold oh;split
  ·exact acV _
  split
  ·exact acV _
  ·simp only [ac5];have:=aa0 k;exact Nat.succ_le_succ (this _ _)
theorem Rj (b:Bs):(scan b).1.length≤b.length:=by
 unfold scan;split
 ·exact aa0 _ _ _
 ·exact acV _
end Go.ah
namespace Go.Proofs.YtihngncbioofnaaGreatDoor
open Go Go.Sl Go.ay Go.MapKept Go.RowKit
abbrev dH (L:Seg.Log) (M:ay):Rep.Told:=fun n=>L.bytes M n
section
variable {w0 w:World}{F:List aH}{p m K:Nat}{L:Seg.Log}{M:ay}{sv:Value}
theorem split_c (hL:L.Ok) (hM:M.Ok K) (hH:Ro w0 F Half) (h:Sat w0 w (aB 3 1 sv (ints L.aF)::aK p m L::aJ m M::F)) :
  Calls Tryz.prog 111 #[ptr p,sv] w (aP fun v w'=>v = .tuple #[.int .i64 (Rep.split (dH L M) L.aF L.aF.length).1,errno (Rep.split (dH L M) L.aF L.aF.length).2] ∧
   Sat w0 w' (aB 3 1 sv (ints L.aF)::aK p m L::aJ m M::F)):=by
 have HL:=uQ hL;have HM:=uQ hM;have HH:=uQ hH;have Hlen:=uQ (show L.aF.length≤1073741824 from by unfold Seg.Log.aF;rw [abl];have:=hL.len;omega);obtain ⟨sa,sc,rfl⟩:∃ a c,sv = .slice a L.aF.length c:=by
  obtain ⟨a,n,c,rfl,hl,_⟩:=Sat.rd h;refine ⟨a,c,?_⟩;rw [show (ints L.aF).length=L.aF.length from abl ..,adb]at hl;rw [hl]
 have w1:IntKind.i64.wrap ((L.aF.length:Int) - 1)=(L.aF.length:Int) - 1:=acC _ (by have:=Hlen.out;omega);clear hL hM hH;go_enter Tryz.func111,Tryz.ntmps111;go_wp2_with fail
 go_loopg [6] L.aF.length (fun g iq wr=>∃ k:Nat,g=0+k∧k≤L.aF.length∧iq = .int .i64 ((k:Int) - 1)∧Rep.split (dH L M) L.aF L.aF.length=Rep.split (dH L M) L.aF k ∧
  Sat w0 wr (aB 3 1 (.slice sa L.aF.length sc) (ints L.aF)::aK p m L::aJ m M::F))
 case atStart=>exact ⟨L.aF.length,(acT _).symm,abL _,rfl,rfl,h⟩
 case round=>
  obtain ⟨k,rfl,hk,rfl,he,hS⟩:=hrel;clear h;cases k with
  |zero=>
   have c1:¬ (((0:Nat):Int) - 1)≥0:=by decide
   have He:=uQ he;clear he;go_wp2_with fail
   go_ret2
   rw [He.out];exact ⟨_,rfl,rfl,hS⟩
  |succ k=>
   have e1:((k+1:Nat):Int) - 1=(k:Int):=oQ;rw [e1];have c1:(k:Int)≥0:=oQ;have c2:(k:Int)<(L.aF.length:Int):=oQ;have w2:IntKind.i64.wrap ((k:Int) - 1)=(k:Int) - 1:=acC _ (by have:=Hlen.out;omega);have w3:IntKind.i64.wrap ((k:Int)+1)=((k+1:Nat):Int):=by rw [acC _ (by have:=Hlen.out;omega)];omega
   obtain ⟨s,hs⟩:∃ s,L.aF[k]?=some s:=⟨_,aaI oQ⟩;have hgd:L.aF.getD k 0=s:=by rw [List.getD,hs];rfl
   have Hu:=uQ (show Rep.split (dH L M) L.aF (k+1)=if (L.bytes M s).2≠0 then (0,(L.bytes M s).2) else if (ah.scan (L.bytes M s).1).2.2=0∧Rep.xQ (ah.scan (L.bytes M s).1).1=true then (k+1,0) else Rep.split (dH L M) L.aF k by
    rw [Rep.split,hgd])
   obtain ⟨bk,off,cc,hsv,hcell⟩:=jG (f:=fun i:Int=>[Value.int .i64 i]) (k:=1) (l:=L.aF) (fun u _=>rfl) (by have:=Sat.rd hS;rw [show ints L.aF=L.aF.flatMap fun i=>[Value.int .i64 i] from by unfold ints;exact List.map_eq_flatMap]at this;exact this) hs aN;cases hsv;have f0:=hcell 0 _ rfl;rw [adb,aif]at f0;have He:=uQ he;have hb:=FV HL.out HM.out s (hS.sb:Sat w0 wr (aK p m L::aJ m M::aB 3 1 (.slice (some ⟨bk,off,none⟩) L.aF.length sc) (ints L.aF)::F));have hk':=uQ hk;clear hcell hs hgd he hS hk;go_wp2_with fail;refine hb.mono ?_;rintro ee w3 ⟨v,rfl,bv,rfl,hS3⟩;clear hb;obtain ⟨hcap,ca,cc,rfl⟩:=NC hS3;by_cases h0:(L.bytes M s).2=0;rotate_left
   ·have hb:((L.bytes M s).2 != 0)=true:=by rw [agL];exact h0
    have Hf:=uQ (show Rep.split (dH L M) L.aF (k+1)=(0,(L.bytes M s).2) by rw [Hu.out,acr h0]);clear h0;go_wp2_with fail
    go_ret2
    rw [He.out,Hf.out];exact ⟨_,rfl,rfl,hS3.sb⟩
   have hb:((L.bytes M s).2 != 0)=false:=by rw [h0];rfl
   have H0:=uQ h0;rw [h0];clear h0;have hbl:=Seg.EN (L:=L) HM.out s;have hsc:=Oe (w0:=w0) (w:=w3) (L.bytes M s).1 (Ro.bK _ _) hcap (Ro.os HH.out) (acz hbl aN) hS3;have lW:=uQ hbl;clear hcap hbl;go_wp2_with fail;refine hsc.mono ?_;rintro ee w4 ⟨v,rfl,fs,fv,hfs,hfk,rfl,hS4⟩;clear hsc hS3;obtain ⟨fa,fc,rfl⟩:=N9 hfk hS4;have hS5:Sat w0 w4 (aB 3 1 (.slice (some ⟨bk,off,none⟩) L.aF.length sc) (ints L.aF)::aK p m L::aJ m M::F):=hS4.sb;by_cases h1:(ah.scan (L.bytes M s).1).2.2=0;rotate_left
   ·have hb1:((ah.scan (L.bytes M s).1).2.2==0)=false:=by rw [acH];exact h1
    have Hf:=uQ (show Rep.split (dH L M) L.aF (k+1)=Rep.split (dH L M) L.aF k by rw [Hu.out,abA (fun h=>h H0.out),abA (fun h=>h1 h.1)]);clear h1 hS4 hfs hfk;go_wp2_with fail
    go_roundg (0+k)
    case measure=>omega
    case rel=>exact ⟨k,rfl,Nat.le_of_succ_le hk'.out,by first|rfl|go_num,He.out.trans Hf.out,hS5⟩
   have hb1:((ah.scan (L.bytes M s).1).2.2==0)=true:=ai7.2 h1
   have hen:=afF (w:=w4) fs hfk (by
    have:=ah.Rj (L.bytes M s).1;rw [← hfs,abl]at this;have:=lW.out;omega) (Sat.rd hS4)
   rw [hfs]at hen;clear hS4 hfs hfk;by_cases h2:Rep.xQ (ah.scan (L.bytes M s).1).1=true
   ·have Hf:=uQ (show Rep.split (dH L M) L.aF (k+1)=(k+1,0) by rw [Hu.out,abA (fun h=>h H0.out),acr ⟨h1,h2⟩]);rw [h2]at hen;clear h1 h2;go_wp2_with fail;refine hen.mono ?_;rintro ee w5 ⟨v,rfl,rfl,rfl⟩;clear hen;go_wp2_with fail
    go_ret2
    rw [He.out,Hf.out];exact ⟨_,rfl,rfl,hS5⟩
   ·have Hf:=uQ (show Rep.split (dH L M) L.aF (k+1)=Rep.split (dH L M) L.aF k by rw [Hu.out,abA (fun h=>h H0.out),abA (fun h=>h2 h.2)]);rw [aov]at h2;rw [h2]at hen;clear h1 h2;go_wp2_with fail;refine hen.mono ?_;rintro ee w5 ⟨v,rfl,rfl,rfl⟩;clear hen;go_wp2_with fail
    go_roundg (0+k)
    case measure=>omega
    case rel=>exact ⟨k,rfl,Nat.le_of_succ_le hk'.out,by first|rfl|go_num,He.out.trans Hf.out,hS5⟩
end
section
variable {P:Program}{w0 w:World}{t ty:TypeId}
theorem Dv {L R:List aH}{b:Nat}{T:TypeId}{cs:Array Value}{fn:Func}{p:Tmp}{tmps:Array Value}{d:TypeDesc} (hf:fn.results=#[.cell p ty]) (hs:Sat w0 w L) (hp:tmps.getD p undef = .pointer (some ⟨b,0,none⟩)) (k:Pick (pt b (.cells cs T (0,0))) L R)
  (hu:P.underlying ty=some d) (hd:d.isRow=true) (hi:(P.info? ty).map (·.size)=some cs.size):(results fn tmps).run P w = .ok (.agg cs) w:=by
 have hl:=run_loadVar_row (P:=P) w b T ty cs (0,0) d (hs.pick k).at hu (by cases d <;> simp_all [TypeDesc.isRow]) hi;have e:(results fn tmps).run P w=((asAddr (tmps.getD p undef)).run P w).andThen fun a w₁=>(loadVar ty a).run P w₁:=by
  simp only [results,hf];simp [acN,Result.andThen]
 rw [e,hp];simp [asAddr,hl,Result.andThen]
end
end Go.Proofs.YtihngncbioofnaaGreatDoor
namespace Go.Rep
def lastOf (bt:Told) (ns:List Int):Int×Int:=
 if (split bt ns ns.length).2≠0 then (0,(split bt ns ns.length).2) else if (split bt ns ns.length).1=0 then (-1,0) else (ns.getD ((split bt ns ns.length).1 - 1) 0,0)
end Go.Rep
namespace Go.Proofs.YtihngncbioofnaaGreatDoor
open Go Go.Sl Go.ay Go.MapKept Go.RowKit
section
variable {w0 w:World}{F:List aH}{p m K:Nat}{L:Seg.Log}{M:ay}{sv:Value}
theorem sU {sv:Value}{l:List Int}{i:Nat}{s:Int} (h:bG 1 sv (ints l) w) (hs:l[i]?=some s):∃ bk off c,sv = .slice (some ⟨bk,off,none⟩) l.length c∧w.cell? ⟨bk,off+i,none⟩=some (.int .i64 s):=by
 obtain ⟨bk,off,cc,hsv,hcell⟩:=jG (f:=fun i:Int=>[Value.int .i64 i]) (k:=1) (l:=l) (fun u _=>rfl) (by rw [show ints l=l.flatMap fun i=>[Value.int .i64 i] from by unfold ints;exact List.map_eq_flatMap]at h;exact h) hs aN;have f0:=hcell 0 _ rfl;rw [adb,aif]at f0;exact ⟨bk,off,cc,hsv,f0⟩
theorem FN {sv:Value}{l:List Int} (h:bG 1 sv (ints l) w):∃ a c,sv = .slice a l.length c:=by
 obtain ⟨a,n,c,rfl,hl,_⟩:=h;refine ⟨a,c,?_⟩;rw [show (ints l).length=l.length from abl ..,adb]at hl;rw [hl]
theorem YG (hL:L.Ok) (hM:M.Ok K) (hH:Ro w0 F Half) (h:Sat w0 w (aK p m L::aJ m M::F)) :
  Calls Tryz.prog 105 #[ptr p] w (aP fun v w'=>v = .tuple #[.int .i64 (Rep.lastOf (dH L M) L.aF).1,errno (Rep.lastOf (dH L M) L.aF).2]∧Sat w0 w' (aK p m L::aJ m M::F)):=by
 have Hlen:=uQ (show L.aF.length≤1073741824 from by unfold Seg.Log.aF;rw [abl];have:=hL.len;omega);have hse:=FY hL h;have HL:=uQ hL;have HM:=uQ hM;have HH:=uQ hH;clear hL hM hH h;go_enter Tryz.func105,Tryz.ntmps105;go_wp2_with fail;refine hse.mono ?_;rintro ee w1 ⟨v,rfl,hS⟩;clear hse;have hsp:=split_c HL.out HM.out HH.out hS;go_wp2_with fail;refine hsp.mono ?_;rintro ee w2 ⟨v',rfl,rfl,hS2⟩;clear hsp hS;have qL:=uQ (Rep.Ry (dH L M) L.aF L.aF.length);have HS:=uQ (hS2.sb:Sat w0 w2 (aK p m L::aJ m M::F));have hrd:=Sat.rd hS2;clear hS2;by_cases h0:(Rep.split (dH L M) L.aF L.aF.length).2=0
 ·have hb:((Rep.split (dH L M) L.aF L.aF.length).2 != 0)=false:=by rw [h0];rfl
  by_cases h1:(Rep.split (dH L M) L.aF L.aF.length).1=0
  ·have Hf:=uQ (show Rep.lastOf (dH L M) L.aF=(-1,0) by unfold Rep.lastOf;rw [abA (fun h=>h h0),acr h1]);have hb1:(((Rep.split (dH L M) L.aF L.aF.length).1:Int)==0)=true:=by rw [h1];rfl
   clear hrd h0 h1;go_wp2_with fail
   go_ret2
   rw [Hf.out];exact ⟨_,rfl,rfl,HS.out⟩
  ·have Hf:=uQ (show Rep.lastOf (dH L M) L.aF=(L.aF.getD ((Rep.split (dH L M) L.aF L.aF.length).1 - 1) 0,0) by unfold Rep.lastOf;rw [abA (fun h=>h h0),abA h1]);have hle:=qL.out;generalize (Rep.split (dH L M) L.aF L.aF.length).1=n at *
   have hb1:((n:Int)==0)=false:=by rw [acH];omega
   have w1:IntKind.i64.wrap ((n:Int) - 1)=((n - 1:Nat):Int):=by rw [acC _ (by have:=Hlen.out;omega)];omega
   have hlt:n - 1<L.aF.length:=oQ;have hs:L.aF[n - 1]?=some (L.aF.getD (n - 1) 0):=by rw [List.getD,aaI hlt];rfl
   generalize L.aF.getD (n - 1) 0=s at *
   generalize n - 1=j at *
   obtain ⟨bk,off,c,rfl,f0⟩:=sU hrd hs;have c1:(0:Int)≤(j:Int):=oQ;have c2:(j:Int)<(L.aF.length:Int):=oQ;clear hrd h0 h1 hs hlt hle;go_wp2_with fail
   go_ret2
   rw [Hf.out];exact ⟨_,rfl,rfl,HS.out⟩
 ·have hb:((Rep.split (dH L M) L.aF L.aF.length).2 != 0)=true:=by rw [agL];exact h0
  have Hf:=uQ (show Rep.lastOf (dH L M) L.aF=(0,(Rep.split (dH L M) L.aF L.aF.length).2) by unfold Rep.lastOf;rw [acr h0]);clear hrd h0;go_wp2_with fail
  go_ret2
  rw [Hf.out];exact ⟨_,rfl,rfl,HS.out⟩
end
section
variable {P:Program}{w0 w:World}{ops:Array Oper}{rest:List Oper}{a:Act}{Q:Exit→Act→World→Prop}{dst:Option Tmp}{t ty:TypeId}{pos:String}{after:Array Edge}{x y:Operand}{v v1 v2:Value}{i1 i2:Nat}
theorem ab4 (h1:a.eval x=v1) (h2:a.eval y=v2) (hr:∀ w,(Instr.build ty #[(i1,v1),(i2,v2)]).run P w = .ok v w) (h:wpList P ops Q rest (a.put dst v) w) :
  wpList P ops Q (⟨dst,.build ty #[(i1,x),(i2,y)],t,pos,after,none⟩::rest) a w:=
 aeB rfl fun _ hK=>by
  unfold Oper.wp execOp;simp only [aes,acS,adw,h1,h2,acN,hr,acB,ac1];exact hK _ _ h
theorem SS (hr:∀ w,(Instr.build ty #[]).run P w = .ok v w) (h:wpList P ops Q rest (a.put dst v) w):wpList P ops Q (⟨dst,.build ty #[],t,pos,after,none⟩::rest) a w:=
 aeB rfl fun _ hK=>by
  unfold Oper.wp execOp;simp only [aes,adw,acN,hr,acB,ac1];exact hK _ _ h
theorem Bo {L R:List aH}{b:Nat}{T:TypeId}{cs:Array Value}{fn:Func}{t p u:Tmp}{tmps:Array Value}{d:TypeDesc} (hf:fn.results=#[.tmp t,.cell p ty,.tmp u]) (hs:Sat w0 w L) (hp:tmps.getD p undef = .pointer (some ⟨b,0,none⟩)) (k:Pick (pt b (.cells cs T (0,0))) L R)
  (hu:P.underlying ty=some d) (hd:d.isRow=true) (hi:(P.info? ty).map (·.size)=some cs.size):(results fn tmps).run P w = .ok (.tuple #[tmps.getD t undef,.agg cs,tmps.getD u undef]) w:=by
 have hl:=run_loadVar_row (P:=P) w b T ty cs (0,0) d (hs.pick k).at hu (by cases d <;> simp_all [TypeDesc.isRow]) hi;have e:(results fn tmps).run P w=((asAddr (tmps.getD p undef)).run P w).andThen fun a w₁=>((loadVar ty a).run P w₁).andThen fun v w₂=> .ok (.tuple #[tmps.getD t undef,v,tmps.getD u undef]) w₂:=by
  simp only [results,hf];simp [acN,Result.andThen]
 rw [e,hp];simp [asAddr,hl,Result.andThen]
theorem U7 (h:Stop (wpList P ops Q (⟨dst,.build ty #[(i1,x),(i2,y)],t,pos,after,none⟩::rest) a w)):wpList P ops Q (⟨dst,.build ty #[(i1,x),(i2,y)],t,pos,after,none⟩::rest) a w:=h.out
theorem Nj (h:Stop (wpList P ops Q (⟨dst,.build ty #[],t,pos,after,none⟩::rest) a w)):wpList P ops Q (⟨dst,.build ty #[],t,pos,after,none⟩::rest) a w:=h.out
end
section
variable {w0 w:World}{F:List aH}
theorem Qg:rM Tryz.prog 63=some [(0,1),(1,1),(2,1),(3,32),(35,1)]:=by kernel_rfl
theorem akG (x y:Int) (w:World):(Instr.build 63 #[(0,.int .i64 x),(1,.int .i64 y)]).run Tryz.prog w = .ok (.agg (fA ⟨x,y,0⟩)) w:=by
 have h:=aod (P:=Tryz.prog) [(0,.int .i64 x),(1,.int .i64 y)] Qg qc (by
  intro p hp;have hzz:(Value.agg (fA Rep.dZ.zero)).cells.size=36:=by rfl
  rw [hzz];rcases acK.1 hp with rfl|hp
  ·exact ⟨0,rfl,by show 0+1≤36;omega⟩
  ·rw [acO.1 hp];exact ⟨1,rfl,by show 1+1≤36;omega⟩) w
 exact h
theorem akH (x y z:Int) (w:World):(Instr.build 63 #[(0,.int .i64 x),(1,.int .i64 y),(2,.int .i64 z)]).run Tryz.prog w = .ok (.agg (fA ⟨x,y,z⟩)) w:=by
 have h:=aod (P:=Tryz.prog) [(0,.int .i64 x),(1,.int .i64 y),(2,.int .i64 z)] Qg qc (by
  intro p hp;have hzz:(Value.agg (fA Rep.dZ.zero)).cells.size=36:=by rfl
  rw [hzz];rcases acK.1 hp with rfl|hp
  ·exact ⟨0,rfl,by show 0+1≤36;omega⟩
  rcases acK.1 hp with rfl|hp
  ·exact ⟨1,rfl,by show 1+1≤36;omega⟩
  ·rw [acO.1 hp];exact ⟨2,rfl,by show 2+1≤36;omega⟩) w
 exact h
theorem Kq (w:World):(Instr.build 63 #[]).run Tryz.prog w = .ok (.agg (fA Rep.dZ.zero)) w:=aod (P:=Tryz.prog) [] Qg qc (by simp) w
theorem afS (s:Int) (at_:Nat) (h:Sat w0 w F):Calls Tryz.prog 114 #[.int .i64 s,.int .i64 at_] w (aP fun v w'=>v = .agg (fA (Rep.fault s at_))∧Sat w0 w' F):=by
 have hone:∀ f,(fA f).size=36:=fun f=>rfl;by_cases h0:at_=0
 ·have hb:((at_:Int)==0)=true:=by rw [h0];rfl
  have e:=uQ (show Rep.fault s at_=⟨1,s,0⟩ from acr h0);clear h0;go_enter Tryz.func114,Tryz.ntmps114;go_wp2_with (with_reducible apply gq);refine ⟨fF qc h rfl ?_⟩;intro b4 w4 h4
  go_wp2_with (first
   |((with_reducible refine U7 ⟨?_⟩);refine ab4 aj aj (fun w=>akG 1 s w) ?_)
   |((with_reducible refine cO ⟨?_⟩);refine gJ (fA ⟨1,s,0⟩) h4 aj aj aj cZ au aj ?_;intro w9 h9))
  refine ⟨rfl,_,Dv rfl h9 aj bC Tryz.underlying63 rfl au,?_⟩;exact ⟨_,rfl,by rw [e.out],h9.drop⟩
 ·have hb:((at_:Int)==0)=false:=by rw [acH];omega
  have e:=uQ (show Rep.fault s at_=⟨2,s,at_⟩ from abA h0);clear h0;go_enter Tryz.func114,Tryz.ntmps114;go_wp2_with (with_reducible apply gq);refine ⟨fF qc h rfl ?_⟩;intro b4 w4 h4
  go_wp2_with (first
   |((with_reducible refine U8 ⟨?_⟩);refine ab5 aj aj aj (fun w=>akH 2 s at_ w) ?_)
   |((with_reducible refine cO ⟨?_⟩);refine gJ (fA ⟨2,s,at_⟩) h4 aj aj aj cZ au aj ?_;intro w9 h9))
  refine ⟨rfl,_,Dv rfl h9 aj bC Tryz.underlying63 rfl au,?_⟩;exact ⟨_,rfl,by rw [e.out],h9.drop⟩
end
end Go.Proofs.YtihngncbioofnaaGreatDoor
namespace Go.Rep
open Go.ah (Bs)
def Dy (bt:Told) (ns:List Int) (n:Nat):(dZ×Int) ⊕ Nat:=match bad bt (ns.take n) with
 |some x=> .inl x
 |none=> .inr n
def run (bt:Told) (ns:List Int):(dZ×Int) ⊕ Nat:=
 if (split bt ns ns.length).2≠0 then .inl (dZ.zero,(split bt ns ns.length).2) else Dy bt ns (split bt ns ns.length).1
theorem aaL {bt:Told}{ns:List Int}{n:Nat}{x:dZ×Int} (h:bad bt (ns.take n)=some x):Dy bt ns n = .inl x:=by unfold Dy;rw [h]
theorem QZ {bt:Told}{ns:List Int}{n:Nat} (h:bad bt (ns.take n)=none):Dy bt ns n = .inr n:=by unfold Dy;rw [h]
def nY (l:List Int):Int:=match l.getLast? with
 |some s=>s
 |none=> -1
theorem Zm:∀ {l:List Row}{k:Bs}{r:Row},newest l k=some r→r∈l
 |[],_,_,h=>by cases h
 |x::l,k,r,h=>by
  unfold newest at h;split at h
  ·rename_i y hy;cases h;exact .tail _ (Zm hy)
  ·split at h
   ·cases h;exact .head _
   ·cases h
theorem ah0 {l:List Row}{k:Bs}{a:dP} (h:ledger l k=some a):∃ r∈l,a.place=iH r:=by
 unfold ledger at h;cases hn:newest l k with
 |none=>rw [hn]at h;cases h
 |some r=>rw [hn]at h;cases h;exact ⟨r,Zm hn,rfl⟩
theorem akh (bt:Told) (ns:List Int) (n:Nat):∀ r∈rowsOf bt (ns.take n),r∈rowsOf bt ns:=fun r hr=>by
 unfold rowsOf at hr ⊢;obtain ⟨s,hs,h⟩:=ahK.1 hr;exact ahK.2 ⟨s,adG hs,h⟩
theorem QG (bt:Told) (ns:List Int) (n:Nat):(rowsOf bt (ns.take n)).length≤(rowsOf bt ns).length:=by
 have e:rowsOf bt ns=rowsOf bt (ns.take n)++rowsOf bt (ns.drop n):=by
  unfold rowsOf;rw [← adz,adB]
 rw [e,aaK];omega
theorem ahY (l:List Int) (s:Int):nY (l++[s])=s:=by unfold nY;rw [anT];rfl
end Go.Rep
namespace Go.Proofs.YtihngncbioofnaaGreatDoor
open Go Go.Sl Go.ay Go.MapKept Go.RowKit
section
variable {P:Program}{w0 w:World}{L R:List aH}{b:Nat}{ops:Array Oper}{a:Act}{Q:Exit→Act→World→Prop}{K:Act→World→Prop}{E:Prop}{dst:Option Tmp}{t ty:TypeId}{pos:String}{after:Array Edge}{y:Operand}{v:Value}{cs:Array Value}
theorem I9 (hs:Sat w0 w L) (hy:a.eval y=v) (hcs:v.cells=cs)
  (hK:∀ b w',Sat w0 w' (pt b (.cells cs ty (0,0))::L)→K (a.put dst (.pointer (some ⟨b,0,none⟩))) w') :
  if Region.wanted ⟨dst,.box ty y,t,pos,after,none⟩ (yielded ops a.tmps)=true then Oper.wp P ⟨dst,.box ty y,t,pos,after,none⟩ a w K Q else E:=by
 subst hcs;refine xO rfl ?_;have hS:=hs.alloc (.cells v.cells ty);unfold Oper.wp execOp;have hrun:(Instr.box ty v).run P w = .ok (.pointer (some ⟨w.heap.size,0,none⟩)) (w.alloc (.cells v.cells ty)):=by
  simp [Instr.box,newVar,newRow,go_sem]
 simp only [hy,acN,ac1,hrun,acB];exact hK _ _ hS
end
section
variable {w0 w:World}{F R:List aH}{sv:Value}
theorem ame {l:List Int}{n:Nat} (hn:n≤l.length) (h:Sat w0 w (aB 3 1 sv (ints l)::R)) :
  ∃ tv,(∀ w,(Instr.sliceAt 29 sv (some (.int .i64 n)) none none).run Tryz.prog w = .ok tv w)∧(∃ a' c',tv = .slice a' (l.length - n) c')∧∀ W,bG 1 sv (ints l) W→bG 1 tv (ints (l.drop n)) W:=by
 rcases h.kP with ⟨rfl,he,h'⟩|⟨g,k,cap,cs,rfl,hl,hk,hc,hcm,htk,hp⟩
 ·obtain rfl:l=[]:=by simpa [ints] using he
  obtain rfl:n=0:=by simpa using hn
  refine ⟨.slice none 0 0,fun w=>by go_simp,⟨none,0,rfl⟩,fun W hW=>by simpa using hW⟩
 ·obtain rfl:k=l.length:=by simpa [ints] using hl.symm
  by_cases hce:cap=n
  ·have hd:l.drop n=[]:=List.drop_eq_nil_of_le oQ;have e0:l.length - n=0:=oQ;rw [hd,e0];have h1:n≤cap:=oQ;have h2:l.length=n:=oQ;refine ⟨.slice (some ⟨g,0,none⟩) 0 0,fun w=>?_,⟨_,_,rfl⟩,fun W hW=>⟨_,_,_,rfl,rfl,fun j x hj=>by cases hj⟩⟩;have h4:(0:Int)≤(n:Int):=oQ;have h5:(n:Int).toNat=n:=oQ;subst hce;go_simp
  ·refine ⟨.slice (some ⟨g,n,none⟩) (l.length - n) (cap - n),fun w=>?_,⟨_,_,rfl⟩,fun W hW=>?_⟩
   ·have h4:(0:Int)≤(n:Int):=by omega
    have h5:(n:Int).toNat=n:=oQ;have h6:n≤cap:=oQ;go_simp
   ·obtain ⟨a,n',c,he,hl',hx⟩:=hW;cases he;refine ⟨_,_,_,rfl,by unfold ints;rw [abl,acL,adb],fun j x hj=>⟨_,rfl,?_⟩⟩;have hj2:(ints l)[n+j]?=some x:=by
     unfold ints at hj ⊢;rw [List.map_drop,anQ]at hj;exact hj
    obtain ⟨ad,e,hc'⟩:=hx (n+j) x hj2;cases e;rw [zJ,acT]at hc';rw [zJ];exact hc'
theorem agX {l:List Int}{n:Nat} (hn:n≤l.length) (h:Sat w0 w (aB 3 1 sv (ints l)::R)) :
  ∃ a' c',(∀ w,(Instr.sliceAt 29 sv none (some (.int .i64 n)) none).run Tryz.prog w = .ok (.slice a' n c') w)∧∀ W,bG 1 sv (ints l) W→bG 1 (.slice a' n c') (ints (l.take n)) W:=by
 rcases h.kP with ⟨rfl,he,h'⟩|⟨g,k,cap,cs,rfl,hl,hk,hc,hcm,htk,hp⟩
 ·obtain rfl:l=[]:=by simpa [ints] using he
  obtain rfl:n=0:=by simpa using hn
  refine ⟨none,0,fun w=>by go_simp,fun W hW=>by simpa using hW⟩
 ·obtain rfl:k=l.length:=by simpa [ints] using hl.symm
  refine ⟨some ⟨g,0,none⟩,cap,fun w=>?_,fun W hW=>?_⟩
  ·have h4:(0:Int)≤(n:Int):=by omega
   have h5:(n:Int).toNat=n:=oQ;have h6:n≤cap:=oQ;go_simp
  ·obtain ⟨a,n',c,he,hl',hx⟩:=hW;cases he;refine ⟨_,_,_,rfl,by unfold ints;rw [abl,acA,adb];omega,fun j x hj=>?_⟩;refine hx j x ?_;unfold ints at hj ⊢;rw [anw,adC]at hj;split at hj
   ·exact hj
   ·cases hj
theorem fE.lists {p B:Nat}{m:ah.Bs→Option Rep.dP} (h:Sat w0 w (fE p m B::R)):∃ kv,Tab.Lists m kv∧(∀ q∈kv,q.1.length=32)∧kv.length≤B:=by
 obtain ⟨t,sv',⟨ok,is,hb⟩,hS⟩:=fE.open h;have hp:=List.mergeSort_perm (t.slots.filter fun x=>decide (x.st=1)) (fun a b:Tab.Slot Rep.dP=>decide (¬ b.key<a.key))
 have hw:=List.pairwise_mergeSort (le:=fun a b:Tab.Slot Rep.dP=>decide (¬ b.key<a.key)) (fun a b c h1 h2=>by
   rw [acF]at h1 h2 ⊢;intro h3;rcases Tab.IV a.key b.key with q|q|q
   ·exact h2 (aoH h3 q)
   ·exact h2 (q ▸ h3)
   ·exact h1 q) (fun a b=>by
   rw [Bool.or_eq_true,acF,acF];by_cases q:b.key<a.key
   ·exact .inr fun q2=>aoc _ (aoH q q2)
   ·exact .inl q) (t.slots.filter fun x=>decide (x.st=1))
 obtain ⟨h1,h2⟩:=Tab.Pn ok.good is hp (hw.imp fun {a b} q=>by rwa [acF]at q);refine ⟨_,h1,fun q hq=>?_,?_⟩
 ·obtain ⟨x,hx,rfl⟩:=abZ.1 hq;exact (h2 x hx).2
 ·rw [abl,hp.length_eq,← List.countP_eq_length_filter];have e:t.slots.countP (fun x=>decide (x.st=1))=Tab.jP t.slots:=by
   unfold Tab.jP;refine List.countP_congr fun x _=>?_;simp
  have:=ok.n;omega
end
end Go.Proofs.YtihngncbioofnaaGreatDoor
namespace Go.ah
theorem ajN {b:Bs} (h:(read b).2.2=0):(read b).1.tag=0∨(read b).1.tag=1∨(read b).1.tag=2:=by
 unfold read at *
 dsimp only at *
 split at h
 ·simp at h
 rename_i h9;rw [abA h9];split at h
 ·simp at h
 rename_i hf;rw [abA hf];split at h
 ·simp at h
 rename_i hl;rw [abA hl];split at h
 ·simp at h
 rename_i hc;rw [abA hc];have ht:b.getD 8 0=0∨b.getD 8 0=1∨b.getD 8 0=2:=by
  unfold fits at hf;split at hf
  ·exact .inl aQ
  split at hf
  ·exact .inr (.inl aQ)
  split at hf
  ·exact .inr (.inr aQ)
  ·exact absurd rfl hf
 split
 all_goals
  dsimp only;rcases ht with e|e|e <;> rw [e]
  ·exact .inl rfl
  ·exact .inr (.inl rfl)
  ·exact .inr (.inr rfl)
theorem aa2:∀ (k:Nat) (b:Bs) (at_:Nat),∀ f∈(oh k b at_).1,(f.e.tag=0∨f.e.tag=1∨f.e.tag=2)∧f.e.key.length=32∧9≤f.size∧f.size≤b.length
 |0,_,_,f,hf=>by cases hf
 |k+1,b,at_,f,hf=>by
  unfold oh at hf;split at hf
  ·cases hf
  split at hf
  ·cases hf
  rename_i he;have he:(read b).2.2=0:=by simpa using he
  have h1:=aap he;simp only at hf;rcases acK.1 hf with rfl|hf
  ·exact ⟨ajN he,h1.2.2,h1.1,h1.2.1⟩
  ·have h2:=aa2 k _ _ f hf;refine ⟨h2.1,h2.2.1,h2.2.2.1,acz h2.2.2.2 ?_⟩;rw [acL];omega
theorem scan_ok (b:Bs):∀ f∈(scan b).1,(f.e.tag=0∨f.e.tag=1∨f.e.tag=2)∧f.e.key.length=32∧9≤f.size∧f.size≤b.length:=fun f hf=>by
 unfold scan at hf;split at hf
 ·have h:=aa2 _ _ _ f hf;refine ⟨h.1,h.2.1,h.2.2.1,acz h.2.2.2 ?_⟩;rw [acL];omega
 ·cases hf
end Go.ah
namespace Go.Rep
open Go.ah (Bs dA)
open Go.Seg (aU)
open Go.Tab
theorem aaF {bt:Told}{ns:List Int}{r:Row} (h:r∈rowsOf bt ns):r.1∈ns∧r.2∈(ah.scan (bt r.1).1).1:=by
 unfold rowsOf at h;obtain ⟨s,hs,h⟩:=ahK.1 h;obtain ⟨f,hf,rfl⟩:=abZ.1 h;exact ⟨hs,hf⟩
theorem akg {bt:Told}{ns:List Int} (hr:ns.Pairwise (· < ·)) (h0:∀ s∈ns,0≤s):Rows (rowsOf bt ns):=by
 refine ⟨fun r h=>(ah.scan_ok _ _ (aaF h).2).1,fun r h=>h0 _ (aaF h).1,?_⟩;unfold rowsOf;rw [List.pairwise_flatMap];refine ⟨fun s _=>?_,hr.imp fun {a b} hab x hx y hy=>?_⟩
 ·rw [aij];exact List.pairwise_of_forall fun _ _=>an2 s
 ·obtain ⟨_,_,rfl⟩:=abZ.1 hx;obtain ⟨_,_,rfl⟩:=abZ.1 hy;exact Int.le_of_lt hab
end Go.Rep
namespace Go.Rep
open Go.ah (Bs dA aG dN encs fH)
open Go.Seg (aU mag)
open Go.Tab
def dW:Nat→List (List aG)→List Row
 |_,[]=>[]
 |k,es::C=>((dN es 8).map fun f=>((k:Int),f))++dW (k+1) C
section
variable {C:List (List aG)}{bt:Told}{k n:Nat}
theorem QE:∀ (k:Nat) (C:List (List aG)),(dW k C).map (·.2.e)=C.flatten
 |_,[]=>rfl
 |k,es::C=>by
  unfold dW;rw [acI,aee,QE (k+1) C,anI]
  congr 1
  exact ah.xW es 8
theorem QJ:∀ (C:List (List aG)) (k:Nat),(∀ j es,C[j]?=some es→bt ((k+j:Nat):Int)=(mag++encs es,0)∧∀ x∈es,fH x)→rowsOf bt ((List.range' k C.length).map fun i=>((i:Nat):Int))=dW k C
 |[],k,_=>rfl
 |es::C,k,h=>by
  have h0:=h 0 es rfl;rw [aif]at h0;have ih:=QJ C (k+1) fun j fs hj=>by
   have:=h (j+1) fs (by simpa using hj)
   rwa [show k+(j+1)=k+1+j by omega]at this
  rw [ac5,List.range'_succ,acS];show ((ah.scan (bt (k:Int)).1).1.map fun f=>((k:Int),f))++rowsOf bt ((List.range' (k+1) C.length).map fun i=>((i:Nat):Int))=_;rw [ih,h0.1,ah.Ku es h0.2]
  rfl
def lS (es:List aG):Bool:=match es.getLast? with
 |some x=>x.tag==2
 |none=>false
theorem afG (es:List aG) (a:Nat):xQ (dN es a)=lS es:=by
 unfold xQ lS;have h:(dN es a).getLast?.map (·.e)=es.getLast?:=by rw [← List.getLast?_map,ah.xW]
 cases hl:(dN es a).getLast? with
 |none=>rw [hl]at h;rw [← h];rfl
 |some f=>rw [hl]at h;rw [← h];rfl
theorem Rx {ns:List Int} (hl:ns.length=C.length) (h:∀ j es,C[j]?=some es→bt (ns.getD j 0)=(mag++encs es,0)∧∀ x∈es,fH x):∀ i,i≤C.length →
  ∃ n,split bt ns i=(n,0)∧n≤i∧(n≠0→∃ es,C[n - 1]?=some es∧lS es=true)∧∀ j es,n≤j→j<i→C[j]?=some es→lS es=false
 |0,_=>⟨0,rfl,abL _,fun h=>absurd rfl h,fun j es h1 h2=>by omega⟩
 |i+1,hi=>by
  obtain ⟨es,he⟩:∃ es,C[i]?=some es:=⟨_,aaI oQ⟩;obtain ⟨h1,h2⟩:=h i es he;have hu:split bt ns (i+1)=if lS es=true then (i+1,0) else split bt ns i:=by
   rw [split,h1,abA (by simp),ah.Ku es h2];simp only [afG,true_and]
  rw [hu];cases hc:lS es with
  |true=>exact ⟨i+1,rfl,abL _,fun _=>⟨es,he,hc⟩,fun j fs a b=>by omega⟩
  |false=>
   obtain ⟨n,a,b,c,d⟩:=Rx hl h i oQ;refine ⟨n,a,by omega,c,fun j fs p q r=>?_⟩;by_cases e:j=i
   ·subst e;rw [he]at r;cases r;exact hc
   ·exact d j fs p oQ r
theorem Vf {ns:List Int} (h:∀ (j:Nat) (s:Int),ns[j]?=some s→∃ es,bt s=(mag++encs es,0)∧∀ x∈es,fH x):bad bt ns=none:=by
 induction ns with
 |nil=>rfl
 |cons s ns ih=>
  obtain ⟨es,h1,h2⟩:=h 0 s rfl;unfold bad;rw [h1,abA (by simp),ah.Ku es h2];simp only;rw [abA (by simp)];exact ih fun j t hj=>h (j+1) t (by simpa using hj)
def oO:List aG→Bs→Option aG
 |[],_=>none
 |x::l,k=>match oO l k with
  |some y=>some y
  |none=>if x.tag≠2∧x.key=k then some x else none
theorem PW:∀ (l:List Row) (k:Bs),(newest l k).map (·.2.e)=oO (l.map (·.2.e)) k
 |[],_=>rfl
 |r::l,k=>by
  have ih:=PW l k;unfold newest;rw [acS]
  conv=>rhs;unfold oO
  rw [← ih];cases newest l k with
  |some x=>rfl
  |none=>
   simp only [an5];unfold dJ fB;split <;> rfl
theorem ahW (a b:List aG) (k:Bs):oO (a++b) k=match oO b k with
  |some y=>some y
  |none=>oO a k:=by
 induction a with
 |nil=>cases h:oO b k <;> simp [oO,h]
 |cons x a ih=>
  rw [adA]
  conv=>lhs;unfold oO
  rw [ih];cases h:oO b k with
  |some y=>rfl
  |none=>simp only;conv=>rhs;unfold oO
theorem O9 (a:List aG) (x:aG) (k:Bs):oO (a++[x]) k=if x.tag≠2∧x.key=k then some x else oO a k:=by
 rw [ahW];unfold oO;simp only [oO];split
 ·rename_i y h;split at h
  ·rename_i h2;rw [acr h2];exact h.symm
  ·cases h
 ·rename_i h;split at h
  ·cases h
  ·rename_i h2;rw [abA h2]
theorem J8:∀ (C:List (List aG)) (k:Nat){r:Row},r∈dW k C→∃ j es,C[j]?=some es∧r.1=((k+j:Nat):Int)∧r.2∈dN es 8
 |[],_,r,h=>by cases h
 |es::C,k,r,h=>by
  unfold dW at h;rcases ac3.1 h with h|h
  ·obtain ⟨f,hf,rfl⟩:=abZ.1 h;exact ⟨0,es,rfl,by simp,hf⟩
  ·obtain ⟨j,fs,h1,h2,h3⟩:=J8 C (k+1) h;exact ⟨j+1,fs,by simpa using h1,by rw [h2];congr 1;omega,h3⟩
theorem CJ:∀ (es:List aG) (a:Nat){f:dA},f∈dN es a→∃ u v,es=u++f.e::v∧f.at_=a+(encs u).length∧f.size=(ah.encode f.e).1.length
 |[],_,f,h=>by cases h
 |x::es,a,f,h=>by
  unfold dN at h;rcases acK.1 h with rfl|h
  ·exact ⟨[],es,rfl,rfl,rfl⟩
  ·obtain ⟨u,v,h1,h2,h3⟩:=CJ es _ h;refine ⟨x::u,v,by rw [h1];rfl,?_,h3⟩;have e:encs (x::u)=(ah.encode x).1++encs u:=rfl;rw [h2,e,aaK];omega
end
end Go.Rep
namespace Go.Seg
open Go.ay
open Go.ah (encs fH dN)
section
variable {n:Nat}{M:ay}{L:Log}{C:List (List ah.aG)}
theorem amh (n i:Nat):((List.range' 0 n).map fun i=>((i:Nat):Int)).take i=(List.range' 0 (min i n)).map fun i=>((i:Nat):Int):=by
 rw [← anw]
 congr 1
 apply an1;intro j;rw [adC];by_cases h1:j<n
 ·by_cases h2:j<i
  ·rw [acr h2,List.getElem?_range' h1,List.getElem?_range' oQ]
  ·rw [abA h2,ahF (by rw [aox];omega)]
 ·rw [ahF (by rw [aox];omega),ahF (by rw [aox];omega)];split <;> rfl
end
end Go.Seg
namespace Go.Seg
open Go.ay
open Go.ah (encs fH)
section
variable {K:Nat}{M M':ay}{L:Log}{s t:ByteArray}{i:Nat}
def nf (L:Log):List Int:=(L.l.map (·.1)).take (L.l.length - L.fresh.toNat)
variable {sure opn:List (aU×ah.aG)}
end
end Go.Seg
namespace Go.Seg
open Go.ay
section
variable {K K':Nat}{M M':ay}{L:Log}{s t:ByteArray}{i:Nat}{sure opn:List (aU×ah.aG)}
theorem UY:∀ (x y u v:Bs),x.length=y.length→x<y→x++u<y++v
 |[],[],_,_,_,h=>absurd h (List.not_lt_nil [])
 |[],_::_,_,_,h,_=>by simp at h
 |_::_,[],_,_,h,_=>by simp at h
 |a::x,b::y,u,v,hl,h=>by
  rw [adA,adA,List.cons_lt_cons_iff];rcases List.cons_lt_cons_iff.1 h with h1|⟨e,h1⟩
  ·exact .inl h1
  ·exact .inr ⟨e,UY x y u v (by simpa using hl) h1⟩
theorem Nb:∀ (x u v:Bs),u<v→x++u<x++v
 |[],_,_,h=>h
 |a::x,u,v,h=>by
  rw [adA,adA,List.cons_lt_cons_iff];exact .inr ⟨rfl,Nb x u v h⟩
theorem V4:∀ (k a b:Nat),a<b→b<10^k→iO a k<iO b k
 |0,a,b,h,hb=>by simp at hb;omega
 |k+1,a,b,h,hb=>by
  show iO (a / 10) k++[UInt8.ofNat (48+a%10)]<iO (b / 10) k++[UInt8.ofNat (48+b%10)];have hb':b / 10<10^k:=by rw [Nat.div_lt_iff_lt_mul oQ];rw [aoq]at hb;exact hb
  rcases amB (a / 10) (b / 10) with q|q
  ·exact UY _ _ _ _ (by rw [vU,vU]) (V4 k _ _ q hb')
  ·have e:a / 10=b / 10:=by omega
   rw [e];refine Nb _ _ _ ?_;rw [List.cons_lt_cons_iff];left;rw [UInt8.lt_iff_toNat_lt,anL,anL];omega
theorem ain {a b:Int} (h1:0≤a) (h2:a<b) (h3:b<1048576):lt (name a) (name b)=true:=by
 unfold name;rw [abA oQ,abA oQ];unfold lt;rw [acF];show lead++iO a.toNat 8<lead++iO b.toNat 8;exact Nb _ _ _ (V4 8 _ _ oQ oQ)
theorem Dk {s:ByteArray} (h:(number s).2=true):0≤(number s).1∧(number s).1<1048576∧name (number s).1=s:=by
 unfold number at h ⊢;dsimp only at h ⊢;split at h
 ·rename_i hc;rw [acr hc];obtain ⟨c1,c2,c3,c4⟩:=hc;refine ⟨by simp only;omega,by simp only;omega,?_⟩;simp only;unfold name;rw [abA oQ];have hl:(s.data.toList.drop 4).length=8:=by
   have:s.data.toList.length=12:=by first|exact c1|(rw [acJ];exact c1)
   rw [acL,this]
  have hd:=afj (s.data.toList.drop 4) c3;rw [hl]at hd;have e:lead++iO (Int.toNat ((val (s.data.toList.drop 4):Nat):Int)) 8=s.data.toList:=by
   rw [Int.toNat_natCast,hd,← c2,adB]
  rw [e]
 ·cases h
theorem CP {l:List ByteArray}{x:Int×Int} (h:x∈found M l):∃ t∈l,(number t).2=true∧x=((number t).1,(M.size t).1):=by
 unfold found at h;obtain ⟨t,ht,he⟩:=List.mem_filterMap.1 h;split at he
 ·rename_i hn;exact ⟨t,ht,hn,(ahM he).symm⟩
 ·cases he
theorem YQ (h:t∈M.list):∃ i,bP M.now t=some i:=by
 unfold ay.list at h;split at h
 ·cases h
 ·obtain ⟨p,hp,rfl⟩:=abZ.1 h;cases hg:bP M.now p.1 with
  |none=>exact absurd rfl (JI hg p hp)
  |some i=>exact ⟨i,rfl⟩
theorem W9:∀ (l:List ByteArray),l.Pairwise (fun a b=>lt a b=true)→((found M l).map (·.1)).Pairwise (· < ·)
 |[],_=>List.Pairwise.nil
 |t::l,h=>by
  obtain ⟨h1,h2⟩:=aeA.1 h;have ih:=W9 l h2;by_cases hn:(number t).2=true
  ·have e:found M (t::l)=((number t).1,(M.size t).1)::found M l:=by unfold found;rw [List.filterMap_cons];simp [hn]
   rw [e,acS,aeA];refine ⟨fun x hx=>?_,ih⟩;obtain ⟨y,hy,rfl⟩:=abZ.1 hx;obtain ⟨u,hu,hun,rfl⟩:=CP hy;have hlt:=h1 u hu;obtain ⟨a1,a2,a3⟩:=Dk hn;obtain ⟨b1,b2,b3⟩:=Dk hun;rcases Int.lt_or_le (number t).1 (number u).1 with q|q
   ·exact q
   ·exfalso;rcases Int.lt_or_eq_of_le q with q|q
    ·have h3:=ain b1 q a2;rw [a3,b3]at h3;have:=lt_trans hlt h3;rw [lt_irrefl]at this;cases this
    ·rw [← a3,← q,b3,lt_irrefl]at hlt;cases hlt
  ·have e:found M (t::l)=found M l:=by unfold found;rw [List.filterMap_cons];simp [hn]
   rw [e];exact ih
theorem Jf (ok:M.Ok K) (limit:Int) (h1:128≤limit) (h2:limit≤1048576):(fresh M limit).Ok:=by
 refine ⟨⟨h1,h2⟩,?_,fun x hx=>?_,fun x hx=>?_,⟨an2 _,by simp [fresh]⟩,fun hh=>by cases hh⟩
 ·refine W9 M.list ?_;unfold ay.list;split
  ·exact List.Pairwise.nil
  ·rw [aij];exact ok.gG.mG
 ·obtain ⟨t,_,hn,rfl⟩:=CP hx;have:=Dk hn;exact ⟨this.1,this.2.1⟩
 ·obtain ⟨t,_,hn,rfl⟩:=CP hx;unfold ay.size;split
  ·simp
  split
  ·simp
  ·have:=(ok.file ‹Nat›).uN;simp only;omega
end
end Go.Seg
namespace Go.Seg
open Go.ay
open Go.ah (encs fH)
section
variable {K K':Nat}{M M':ay}{L:Log}{s t:ByteArray}{i:Nat}{sure opn:List (aU×ah.aG)}
theorem agh (M:ay) (limit:Int):Has (fresh M limit) M:=fun x hx=>by
 obtain ⟨t,ht,hn,rfl⟩:=CP hx;simp only;rw [(Dk hn).2.2];exact YQ ht
theorem agj {n lim:Int} (hoff:M.off=false) (h1:0≤n) (h2:n<1048576) (hi:bP M.now (name n)=some i):n∈nf (fresh M lim):=by
 have hl:name n∈M.list:=by
  unfold ay.list;rw [hoff];exact abZ.2 ⟨_,jF hi,rfl⟩
 unfold nf fresh;simp only;rw [acX (by rw [abl];simp)];refine abZ.2 ⟨(n,(M.size (name n)).1),?_,rfl⟩;unfold found;refine List.mem_filterMap.2 ⟨name n,hl,?_⟩;rw [JM n h1 h2]
 rfl
end
end Go.Seg
namespace Go.aC
open Go.ay
def name (lead:ByteArray) (n:Int):ByteArray:=if Seg.name n=ByteArray.empty then ByteArray.empty else lead++(Seg.name n).extract 4 12
def idx:ByteArray:=⟨#[105,100,120,46]⟩
def use:ByteArray:=⟨#[117,115,101,46]⟩
theorem Kw (n:Int):Seg.name n=ByteArray.empty∨(Seg.name n).size=12∧(Seg.name n).data.toList.take 4=Seg.lead:=by
 unfold Seg.name;split
 ·exact .inl rfl
 ·right;refine ⟨?_,rfl⟩;show (Seg.lead++Seg.iO n.toNat 8).toArray.size=12;rw [abX,aaK,Seg.vU];rfl
end Go.aC
namespace Go.Proofs.YtihngncbioofnaaGreatDoor
open Go Go.Sl Go.ay Go.MapKept Go.RowKit
section
variable {w0 w:World}{F:List aH}{v bv dv x:Value}{q m:Nat}
theorem agR (s:ByteArray) (h1:s.size=12) (h2:s.data.toList.take 4=Seg.lead) (w:World) :
  Calls Tryz.prog 211 #[.string s,.string ⟨#[115,101,103,46]⟩] w (aP fun v w'=>v = .bool true∧w=w'):=by
 have Fe:((s.extract 0 4).toList==[115,101,103,46])=true:=by rw [Nv s,h2];rfl
 have hle:(4:Int)≤(s.size:Int):=oQ;clear h2;go_enter Tryz.func211,Tryz.ntmps211;go_wp2;go_ret;exact ⟨_,rfl,rfl,rfl⟩
theorem amm (s:ByteArray) (h1:s.size=12) (h2:s.data.toList.take 4=Seg.lead) (w:World) :
  Calls Tryz.prog 206 #[.string s,.string ⟨#[115,101,103,46]⟩] w (aP fun v w'=>v = .string (s.extract 4 12)∧w=w'):=by
 have hp:=agR s h1 h2 w;go_enter Tryz.func206,Tryz.ntmps206;go_wp2_with fail;refine hp.mono ?_;rintro e w1 ⟨v,rfl,rfl,rfl⟩;clear hp;go_wp2;go_ret;exact ⟨_,rfl,rfl,rfl⟩
theorem trim_c (s:ByteArray) (h1:s.size=12) (h2:s.data.toList.take 4=Seg.lead) (w:World) :
  Calls Tryz.prog 172 #[.string s,.string ⟨#[115,101,103,46]⟩] w (aP fun v w'=>v = .string (s.extract 4 12)∧w=w'):=by
 have hp:=amm s h1 h2 w;go_enter Tryz.func172,Tryz.ntmps172;go_wp2_with fail;refine hp.mono ?_;rintro e w1 ⟨v,rfl,rfl,rfl⟩;clear hp;go_wp2;go_ret;exact ⟨_,rfl,rfl,rfl⟩
theorem X4 (lead:ByteArray) (hl:lead.size=4) (n:Int) (h:Sat w0 w F) :
  Calls Tryz.prog 130 #[.string lead,.int .i64 n] w (aP fun v w'=>v = .string (aC.name lead n)∧Sat w0 w' F):=by
 have hn:=yQ n h;have Hf:=uQ (show aC.name lead n=if Seg.name n=ByteArray.empty then ByteArray.empty else lead++(Seg.name n).extract 4 12 from rfl);have Hc:=uQ (aC.Kw n);generalize Seg.name n=s at *
 go_enter Tryz.func130,Tryz.ntmps130;go_wp2_with fail;refine hn.mono ?_;rintro e w1 ⟨v,rfl,rfl,hS⟩;clear hn;rcases Hc.out with rfl|⟨h1,h2⟩
 ·clear hl h;go_wp2;go_ret;exact ⟨_,rfl,by rw [Hf.out];rfl,hS⟩
 ·have hne:s≠ByteArray.empty:=fun e=>by rw [e]at h1;cases h1
  have hne2:(s.toList==[])=false:=by
   rw [acH,ByteArray.toList_eq];intro e;have:=adu List.length e;rw [acJ]at this;have h1':s.data.size=12:=h1;rw [h1']at this;cases this
  have hsz:¬ 9223372036854775807<lead.size+(s.extract 4 12).size:=by rw [hl,ByteArray.size_extract];omega
  have qN:=uQ hne;have ht:=trim_c s h1 h2;clear hne h1 h2 hl h;go_wp2_with fail;refine (ht _).mono ?_;rintro e w2 ⟨v,rfl,rfl,rfl⟩;clear ht;go_wp2;go_ret;exact ⟨_,rfl,by rw [Hf.out,abA qN.out];rfl,hS⟩
theorem Yw (n:Int) (h:Sat w0 w F):Calls Tryz.prog 77 #[.int .i64 n] w (aP fun v w'=>v = .string (aC.name aC.idx n)∧Sat w0 w' F):=by
 have hn:=X4 aC.idx rfl n h;go_enter Tryz.func77,Tryz.ntmps77;go_wp2_with fail;refine hn.mono ?_;rintro e w1 ⟨v,rfl,rfl,hS⟩;clear hn;go_wp2;go_ret;exact ⟨_,rfl,rfl,hS⟩
theorem aby (n:Int) (h:Sat w0 w F):Calls Tryz.prog 82 #[.int .i64 n] w (aP fun v w'=>v = .string (aC.name aC.use n)∧Sat w0 w' F):=by
 have hn:=X4 aC.use rfl n h;go_enter Tryz.func82,Tryz.ntmps82;go_wp2_with fail;refine hn.mono ?_;rintro e w1 ⟨v,rfl,rfl,hS⟩;clear hn;go_wp2;go_ret;exact ⟨_,rfl,rfl,hS⟩
def hM:ay:=ay.new 100
end
end Go.Proofs.YtihngncbioofnaaGreatDoor
namespace Go.aC
open Go.ay
def number (s:ByteArray):Int×Bool:=
 if s.data.toList.take 4=[105,100,120,46]∨s.data.toList.take 4=[117,115,101,46] then Seg.number ⟨(Seg.lead++s.data.toList.drop 4).toArray⟩ else (0,false)
def yD:List ByteArray→Int→Int
 |[],m=>m
 |f::l,m=>yD l (if (number f).2=true then max m (number f).1 else m)
def newest (M:ay):Int:=yD M.list (-1)
def tmp:ByteArray:=⟨#[116,109,112]⟩
def there (M:ay) (s:ByteArray):Bool:=decide ((M.size s).2=0)
def tK (M:ay):ay×Int:=if there M tmp=true then M.remove tmp else (M,0)
def fill (M:ay) (s:ByteArray) (b:Bs):ay×Int:=
 if (M.append tmp b).2=0 then
  (if ((M.append tmp b).1.sync tmp).2=0 then ((M.append tmp b).1.sync tmp).1.rename tmp s else (M.append tmp b).1.sync tmp)
 else if (M.append tmp b).2=11 then
  (if ((M.append tmp b).1.remove tmp).2=0 then (((M.append tmp b).1.remove tmp).1,11) else (M.append tmp b).1.remove tmp)
 else M.append tmp b
def write (M:ay) (s:ByteArray) (b:Bs):ay×Int:=
 if (tK M).2=0 then (if ((tK M).1.create tmp).2=0 then fill ((tK M).1.create tmp).1 s b else (tK M).1.create tmp) else tK M
def sweep (p:ByteArray→Bool):List ByteArray→ay→ay×Int
 |[],M=>(M,0)
 |f::l,M=>if p f=true then (if (M.remove f).2=0 then sweep p l (M.remove f).1 else M.remove f) else sweep p l M
def other (n:Int) (s:ByteArray):Bool:=(number s).2 && (number s).1 != n
def Ri (M:ay) (n:Int):ay×Int:=if M.dR.2=0 then sweep (other n) M.dR.1.list M.dR.1 else M.dR
def Rh (M:ay) (n:Int) (bu:Bs):ay×Int:=if (write M (name use n) bu).2=0 then Ri (write M (name use n) bu).1 n else write M (name use n) bu
def save (M:ay) (n:Int) (bi bu:Bs):ay×Int:=if (write M (name idx n) bi).2=0 then Rh (write M (name idx n) bi).1 n bu else write M (name idx n) bi
abbrev Kept:Type:=List (ByteArray×Nat×bH)
section
variable {T:Kept}{s1 s2 s:ByteArray}{b1 b2 b:Bs}{K j:Nat}{M M':ay}{l:Names}{fs fs':Nat→bH}
theorem RJ:tmp≠ByteArray.empty:=by decide
end
section
variable {s:ByteArray}{b b1 b2:Bs}{K r:Nat}{M:ay}
theorem _root_.Go.Seg.Calm.rename (h:Seg.Calm K r M) (s t:ByteArray):Seg.Calm (K+1) r (M.rename s t).1:=by
 have f:=(Fits.does h.ok h.dst h.used ⟨3,s,t,0,0,[],[]⟩ (show (3:Int)≠8 by decide) (show (3:Int)≠9 by decide)).1;exact ⟨h.ok.rename s t,h.quiet.rename s t,f.dst,f.used,f.room.trans h.room⟩
theorem agF:good tmp=true:=by decide +kernel
theorem alD (q:Quiet M) (h:bP M.now s=none):M.size s=(0,9):=by unfold ay.size;rw [q.off,h];rfl
theorem abt (q:Quiet M) (h:bP M.now s=none):there M s=false:=by unfold there;rw [alD q h];rfl
theorem aiK (l:Names) (s:ByteArray) (i:Nat):(kC l s i).length≤l.length+1:=by rw [P7];have:=AV l s;omega
theorem name_eq (ld:ByteArray) (n:Int) (h1:0≤n) (h2:n<1048576):(name ld n).data.toList=ld.data.toList++Seg.iO n.toNat 8:=by
 have hs:=Seg.Oi n h1 h2;have hne:=qP hs;unfold name;rw [abA hne];have e:Seg.name n=⟨(Seg.lead++Seg.iO n.toNat 8).toArray⟩:=by unfold Seg.name;rw [abA oQ]
 rw [e];rw [ByteArray.data_append,aoo,ByteArray.data_extract,Array.toList_extract];show _++(List.extract (Seg.lead++Seg.iO n.toNat 8) 4 12)=_
 congr 1
theorem afi (n k:Nat):(Seg.iO n k).all nU=true:=by
 rw [aeD];intro c hc;have:=(aeD.1 (Seg.NS k n)) c hc;unfold Seg.l9 at this;rw [adg,acF,acF]at this;unfold nU;have e1:(48:UInt8)≤c:=UInt8.le_iff_toNat_le.2 this.1;have e2:c≤57:=UInt8.le_iff_toNat_le.2 this.2;simp [e1,e2]
theorem AQ {ld:ByteArray} (hl:ld.data.toList.length=4) (hg:ld.data.toList.all nU=true) (n:Int) (h1:0≤n) (h2:n<1048576):good (name ld n)=true:=by
 have e:=name_eq ld n h1 h2;have hs:(name ld n).size=12:=by
  show (name ld n).data.size=12;rw [← acJ,e,aaK,hl,Seg.vU]
 unfold good;rw [hs,e,ahh,hg,afi]
 rfl
theorem wu {ld:ByteArray} (hl:ld.data.toList=[105,100,120,46]∨ld.data.toList=[117,115,101,46]) (n:Int) (h1:0≤n) (h2:n<1048576):number (name ld n)=(n,true):=by
 have e:=name_eq ld n h1 h2;have hs:=Seg.JM n h1 h2;have e2:Seg.name n=⟨(Seg.lead++Seg.iO n.toNat 8).toArray⟩:=by unfold Seg.name;rw [abA oQ]
 rw [e2]at hs;unfold number;rw [e];rcases hl with hl|hl
 ·rw [hl,acr (.inl rfl)];exact hs
 ·rw [hl,acr (.inr rfl)];exact hs
theorem yF (n:Int):number (Seg.name n)=(0,false):=by
 unfold number;rcases Kw n with h|⟨_,h⟩
 ·rw [h,abA aN]
 ·rw [h,abA aN]
theorem ZA:number tmp=(0,false):=by
 unfold number;rw [abA aN]
theorem Qc {n:Int}{s:ByteArray} (h:(number s).2=false):other n s=false:=by unfold other;rw [h];rfl
theorem ZO {n:Int}{s:ByteArray} (h:number s=(n,true)):other n s=false:=by unfold other;rw [h];simp
theorem CX:idx.data.toList=[105,100,120,46]:=rfl
theorem GL:use.data.toList=[117,115,101,46]:=rfl
theorem aio (n:Int) (h1:0≤n) (h2:n<1048576):name idx n≠name use n:=fun e=>by
 have a:=name_eq idx n h1 h2;rw [e,name_eq use n h1 h2,CX,GL]at a;simp at a
theorem Ky (m n:Int) (h1:0≤n) (h2:n<1048576):Seg.name m≠name idx n:=fun e=>by
 have a:=wu (.inl CX) n h1 h2;rw [← e,yF]at a;simp at a
theorem Kz (m n:Int) (h1:0≤n) (h2:n<1048576):Seg.name m≠name use n:=fun e=>by
 have a:=wu (.inr GL) n h1 h2;rw [← e,yF]at a;simp at a
theorem OZ (n:Int) (h1:0≤n) (h2:n<1048576):name idx n≠tmp:=fun e=>by
 have a:=wu (.inl CX) n h1 h2;rw [e,ZA]at a;simp at a
theorem SC (n:Int) (h1:0≤n) (h2:n<1048576):name use n≠tmp:=fun e=>by
 have a:=wu (.inr GL) n h1 h2;rw [e,ZA]at a;simp at a
end
end Go.aC
namespace Go.Seg
open Go.ay
open Go.ah (encs fH dN)
structure HG (K r E B n:Nat) (L:Log) (M:ay) (C:List (List ah.aG)):Prop where
 keeps:Keeps K r L M
 len:L.l.length=C.length
 at_:∀ (k:Nat) (es:List ah.aG),C[k]?=some es→L.l[k]?=some ((k:Int),8+((encs es).length:Int))
 file:∀ (k:Nat) (es:List ah.aG),C[k]?=some es→M.all (name k)=(mag++encs es,0)
 good:∀ es∈C,(∀ x∈es,fH x)∧es≠[]
 count:C.length≤n
 used:M.used≤n * 400+B
 names:M.now.length≤n+E
 cover:∀ (k i:Nat),k<1048576→bP M.now (name (k:Int))=some i→k<C.length
section
variable {K r E B n:Nat}{L:Log}{M:ay}{C:List (List ah.aG)}
theorem HG.mono {K' E' B' n':Nat} (h:HG K r E B n L M C) (h1:K≤K') (h2:E≤E') (h3:B≤B') (h4:n≤n'):HG K' r E' B' n' L M C:=
 ⟨h.keeps.mono h1,h.len,h.at_,h.file,h.good,acz h.count h4,acz h.used (Nat.add_le_add (afx 400 h4) h3),acz h.names oQ,h.cover⟩
theorem HG.next (h:HG K r E B n L M C):L.next=C.length:=by
 unfold Log.next;cases hl:L.l.getLast? with
 |none=>
  have:=ank.1 hl;have h2:=h.len;rw [this]at h2;simp only [adF]at h2;simp only;omega
 |some s=>
  rw [adv]at hl;have hlt:=(abW.1 hl).1;have h2:=h.len;have hc:C[L.l.length - 1]?=some (C[L.l.length - 1]'oQ):=aaI oQ;have h3:=h.at_ _ _ hc;rw [hl]at h3;cases h3;simp only;omega
theorem HG.aF (h:HG K r E B n L M C):L.aF.length=C.length∧∀ k,k<C.length→L.aF[k]?=some (k:Int):=by
 unfold Log.aF;refine ⟨by rw [abl];exact h.len,fun k hk=>?_⟩;rw [acE,h.at_ k _ (aaI hk)];rfl
theorem HG.at_k (h:HG K r E B n L M C){k:Nat}{es:List ah.aG} (hk:C[k]?=some es):L.at (k:Int)=some k:=by
 have h1:=h.at_ k es hk;cases hat:L.at (k:Int) with
 |none=>
  exfalso;unfold Log.at at hat;rw [List.findIdx?_eq_none_iff]at hat;have:=hat _ (abV h1);simp at this
 |some i=>
  obtain ⟨h2,s,h3,h4⟩:=Log.Ce hat;have h5:i<C.length:=by rw [← h.len];exact h2
  have h6:=h.at_ i _ (aaI h5);rw [h6]at h3;cases h3;simp only at h4
  congr 1
  omega
theorem HG.bytes (h:HG K r E B n L M C){k:Nat}{es:List ah.aG} (hk:C[k]?=some es):L.bytes M (k:Int)=(mag++encs es,0):=by
 unfold Log.bytes;rw [h.at_k hk];exact h.file k es hk
theorem HG.size (h:HG K r E B n L M C){k:Nat}{es:List ah.aG} (hk:C[k]?=some es):L.size (k:Int)=((mag++encs es).length:Nat):=by
 unfold Log.size;rw [h.at_k hk];have h1:=h.at_ k es hk;simp only [acG,h1,anW,aaK];have:mag.length=8:=rfl;omega
theorem HG.ns (h:HG K r E B n L M C):L.aF=(List.range' 0 C.length).map fun i=>((i:Nat):Int):=by
 obtain ⟨h1,h2⟩:=h.aF;apply an1;intro i;by_cases hi:i<C.length
 ·rw [h2 i hi,acE,List.getElem?_range' hi];simp
 ·rw [ahF oQ,ahF (by rw [abl,aox];omega)]
theorem HG.told (h:HG K r E B n L M C):∀ j es,C[j]?=some es→L.bytes M (L.aF.getD j 0)=(mag++encs es,0)∧∀ x∈es,fH x:=fun j es hj=>by
 have hl:=(abW.1 hj).1;rw [List.getD,h.aF.2 j hl];exact ⟨h.bytes hj,(h.good es (abV hj)).1⟩
theorem HG.rows (h:HG K r E B n L M C) (i:Nat):Rep.rowsOf (fun s=>L.bytes M s) (L.aF.take i)=Rep.dW 0 (C.take i):=by
 have e:L.aF.take i=(List.range' 0 (C.take i).length).map fun i=>((i:Nat):Int):=by
  rw [h.ns,amh,acA]
 rw [e];refine Rep.QJ (C.take i) 0 fun j es hj=>?_;have hj':C[j]?=some es:=by
  rw [adC]at hj;split at hj
  ·exact hj
  ·cases hj
 rw [acT];exact ⟨h.bytes hj',(h.good es (abV hj')).1⟩
theorem HG.bad (h:HG K r E B n L M C) (i:Nat):Rep.bad (fun s=>L.bytes M s) (L.aF.take i)=none:=by
 refine Rep.Vf fun j s hs=>?_;have hs':L.aF[j]?=some s:=by
  rw [adC]at hs;split at hs
  ·exact hs
  ·cases hs
 have hl:j<C.length:=by rw [← h.aF.1];exact (abW.1 hs').1
 have:=h.aF.2 j hl;rw [hs']at this;cases this;exact ⟨_,h.bytes (aaI hl),(h.good _ (aot hl)).1⟩
theorem HG.split (h:HG K r E B n L M C):∃ c,Rep.split (fun s=>L.bytes M s) L.aF L.aF.length=(c,0)∧c≤C.length∧(c≠0→∃ es,C[c - 1]?=some es∧Rep.lS es=true)∧∀ j es,c≤j→C[j]?=some es→Rep.lS es=false:=by
 rw [h.aF.1];obtain ⟨c,h1,h2,h3,h4⟩:=Rep.Rx h.aF.1 h.told C.length (abL _);exact ⟨c,h1,h2,h3,fun j es a b=>h4 j es a (abW.1 b).1 b⟩
theorem HG.run (h:HG K r E B n L M C):∃ c,Rep.run (fun s=>L.bytes M s) L.aF = .inr c∧c≤C.length∧(c≠0→∃ es,C[c - 1]?=some es∧Rep.lS es=true)∧∀ j es,c≤j→C[j]?=some es→Rep.lS es=false:=by
 obtain ⟨c,h1,h2⟩:=h.split;refine ⟨c,?_,h2⟩;unfold Rep.run;rw [h1,abA (by simp)];exact Rep.QZ (h.bad c)
theorem HG.Qs (h:HG K r E B n L M C){r:Rep.Row} (hr:r∈Rep.dW 0 C):L.read M (Rep.iH r)=(r.2.e,0):=by
 obtain ⟨j,es,h1,h2,h3⟩:=Rep.J8 C 0 hr;obtain ⟨u,v,h4,h5,h6⟩:=Rep.CJ es 8 h3;obtain ⟨s,⟨e,at_,size⟩⟩:=r;simp only at h2 h3 h4 h5 h6;rw [acT]at h2;subst h2;subst h5;subst h6;have hx:fH e:=(h.good es (abV h1)).1 e (by rw [h4];simp);have hf:=h.file j es h1;have hm:mag.length=8:=rfl;have hes:encs es=encs u++((ah.encode e).1++encs v):=by rw [h4,xP];rfl
 have hrd:=aao h.keeps.calm.quiet hf (a:=8+(encs u).length) (n:=(ah.encode e).1.length) (by rw [aaK,hes,aaK,aaK];omega);have hd:((mag++encs es).drop (8+(encs u).length)).take (ah.encode e).1.length=(ah.encode e).1:=by
  rw [hes,← acD,aou,adp (by rw [aaK];omega)];rw [show 8+(encs u).length - (mag++encs u).length=0 by rw [aaK];omega,aoy,adl,ado (abL _),adk]
 rw [hd]at hrd;have hre:=ah.Qu hx.1 hx.2 [];rw [acM]at hre;unfold Log.read Rep.iH;simp only [h.at_k h1];rw [hrd];simp only [hre];rw [abA aN,abA aN,abA (by simp)]
theorem HG.alike {L':Log}{M':ay} (h:HG K r E B n L M C){K':Nat} (hk:Keeps K' r L' M') (hl:L'.l=L.l) (ha:Alike M M'):HG K' r E B n L' M' C:=
 ⟨hk,by rw [hl];exact h.len,by rw [hl];exact h.at_,fun k es hke=>by rw [ha.all];exact h.file k es hke,h.good,h.count,by rw [ha.used];exact h.used,by rw [ha.now];exact h.names,by rw [ha.now];exact h.cover⟩
theorem HG.IJ (h:HG K r E B n L M C) (x:ah.aG) (hk:x.key.length=32) (hz:(L.append M x).2.2≠0):HG (K+4) r E B n (L.append M x).1.1 (L.append M x).1.2 C:=by
 obtain ⟨k1,k2⟩:=h.keeps.append x hk;obtain ⟨k3,_,k4,_⟩:=k2 hz;exact h.alike k1 k3 k4
end
structure HD (K r E B n:Nat) (L:Log) (M:ay) (D:List (Nat×List ah.aG)):Prop where
 keeps:Keeps K r L M
 l:L.l=D.map fun d=>((d.1:Int),8+((encs d.2).length:Int))
 rise:D.Pairwise fun a b=>a.1<b.1
 lim:∀ d∈D,d.1<n
 file:∀ d∈D,M.all (name d.1)=(mag++encs d.2,0)
 good:∀ d∈D,(∀ x∈d.2,fH x)∧d.2≠[]
 used:M.used≤n * 400+B
 names:M.now.length≤n+E
 cover:∀ (k i:Nat),k<1048576→bP M.now (name (k:Int))=some i→∃ d∈D,d.1=k
def kD (C:List (List ah.aG)):List (Nat×List ah.aG):=C.mapIdx fun i es=>(i,es)
def dG (D:List (Nat×List ah.aG)):List Rep.Row:=D.flatMap fun d=>(dN d.2 8).map fun f=>((d.1:Int),f)
section
variable {K r E B n:Nat}{L:Log}{M:ay}{C:List (List ah.aG)}{D:List (Nat×List ah.aG)}{d:Nat×List ah.aG}
theorem uO (i:Nat):(kD C)[i]?=C[i]?.map fun es=>(i,es):=by unfold kD;rw [List.getElem?_mapIdx]
theorem F6 (h:d∈kD C):C[d.1]?=some d.2:=by
 obtain ⟨i,hi⟩:=List.mem_iff_getElem?.1 h;rw [uO]at hi;cases hc:C[i]? with
 |none=>rw [hc]at hi;cases hi
 |some es=>rw [hc]at hi;cases hi;exact hc
theorem HG.hd (h:HG K r E B n L M C):HD K r E B n L M (kD C):=by
 refine ⟨h.keeps,?_,?_,fun d hd=>?_,fun d hd=>?_,fun d hd=>?_,h.used,h.names,fun k i hk hi=>?_⟩
 ·refine an1 fun i=>?_;rw [acE,uO];cases hc:C[i]? with
  |none=>exact ahG.2 (by rw [h.len];exact ahG.1 hc)
  |some es=>exact h.at_ i es hc
 ·rw [anl];intro i j hi hj hij;have e1:=F6 (aot hi);have e:∀ (q:Nat) (hq:q<(kD C).length),(kD C)[q].1=q:=fun q hq=>by
   have h1:=uO (C:=C) q;rw [aaI hq]at h1;cases hc:C[q]? with
   |none=>rw [hc]at h1;cases h1
   |some es=>rw [hc]at h1;rw [ahM h1]
  rw [e i hi,e j hj];exact hij
 ·have:=(abW.1 (F6 hd)).1;exact Nat.lt_of_lt_of_le this h.count
 ·exact h.file d.1 d.2 (F6 hd)
 ·exact h.good d.2 (abV (F6 hd))
 ·have hk2:=h.cover k i hk hi;refine ⟨(k,C[k]),?_,rfl⟩;refine List.mem_iff_getElem?.2 ⟨k,?_⟩;rw [uO,aaI hk2]
  rfl
theorem HD.mono {K' E' B' n':Nat} (h:HD K r E B n L M D) (h1:K≤K') (h2:E≤E') (h3:B≤B') (h4:n≤n'):HD K' r E' B' n' L M D:=
 ⟨h.keeps.mono h1,h.l,h.rise,fun d hd=>Nat.lt_of_lt_of_le (h.lim d hd) h4,h.file,h.good,acz h.used (Nat.add_le_add (afx 400 h4) h3),acz h.names oQ,h.cover⟩
theorem HD.aF (h:HD K r E B n L M D):L.aF=D.map fun d=>(d.1:Int):=by
 unfold Log.aF;rw [h.l,aee]
 rfl
theorem HD.EK (h:HD K r E B n L M D) (hd:d∈D):∃ i,L.at (d.1:Int)=some i:=by
 cases hat:L.at (d.1:Int) with
 |some i=>exact ⟨i,rfl⟩
 |none=>
  exfalso;unfold Log.at at hat;rw [List.findIdx?_eq_none_iff]at hat;have:=hat ((d.1:Int),8+((encs d.2).length:Int)) (by rw [h.l];exact abZ.2 ⟨d,hd,rfl⟩);simp at this
theorem HD.bytes (h:HD K r E B n L M D) (hd:d∈D):L.bytes M (d.1:Int)=(mag++encs d.2,0):=by
 obtain ⟨i,hi⟩:=h.EK hd;unfold Log.bytes;rw [hi];exact h.file d hd
theorem HD.alike {L':Log}{M':ay} (h:HD K r E B n L M D){K':Nat} (hk:Keeps K' r L' M') (hl:L'.l=L.l) (ha:Alike M M'):HD K' r E B n L' M' D:=
 ⟨hk,by rw [hl];exact h.l,h.rise,h.lim,fun d hd=>by rw [ha.all];exact h.file d hd,h.good,by rw [ha.used];exact h.used,by rw [ha.now];exact h.names,by rw [ha.now];exact h.cover⟩
theorem HD.IJ (h:HD K r E B n L M D) (x:ah.aG) (hk:x.key.length=32) (hz:(L.append M x).2.2≠0):HD (K+4) r E B n (L.append M x).1.1 (L.append M x).1.2 D:=by
 obtain ⟨k1,k2⟩:=h.keeps.append x hk;obtain ⟨k3,_,k4,_⟩:=k2 hz;exact h.alike k1 k3 k4
def nJ (D:List (Nat×List ah.aG)):Nat:=match D.getLast? with
 |none=>0
 |some d=>d.1+1
theorem HD.next (h:HD K r E B n L M D):L.next=nJ D:=by
 unfold Log.next nJ;rw [h.l,List.getLast?_map];cases D.getLast? with
 |none=>rfl
 |some d=>simp
theorem Zn (hr:D.Pairwise fun a b=>a.1<b.1) (hd:d∈D):d.1<nJ D:=by
 unfold nJ;rcases List.eq_nil_or_concat D with rfl|⟨D0,e,rfl⟩
 ·cases hd
 ·rw [List.concat_eq_append,anT]at *
  rw [ahE]at hr;simp only [List.getLast?_singleton,Option.some_or];rcases ac3.1 hd with hd|hd
  ·have:=hr.2.2 d hd e (by simp);omega
  ·rw [acO.1 hd];omega
theorem HD.nextn (h:HD K r E B n L M D):nJ D≤n:=by
 unfold nJ;cases hl:D.getLast? with
 |none=>exact acV _
 |some d=>exact h.lim d (agv hl)
def rO (D:List (Nat×List ah.aG)) (fits:Bool) (x:ah.aG):List (Nat×List ah.aG):=
 if fits=true then D.dropLast++[((D.getLastD (0,[])).1,(D.getLastD (0,[])).2++[x])] else D++[(nJ D,[x])]
theorem HD.zK (h:HD K r E B n L M D) (hn:n<1000) (hnm:M.now.length<500){x:ah.aG} (h0:(ah.encode x).2=0):(L.append M x).2.2=0∨(L.append M x).2.2=11:=by
 cases hf:L.fits (ah.encode x).1.length with
 |true=>
  rw [Log.zL h0 hf];obtain ⟨s,hl⟩:=h.keeps.log.last (xU hf);obtain ⟨i,hi⟩:=h.keeps.has _ (agv hl);unfold Log.grow;rw [hl];simp only;rcases vP h.keeps.calm.quiet (name s.1) (ah.encode x).1 with ⟨q1,_⟩|⟨j,q1,⟨q2,q3⟩|⟨q2,q3⟩⟩
  ·rw [hi]at q1;cases q1
  ·rw [q3];right;rw [abA (by simp)]
  ·rw [q3];left;rw [acr rfl]
 |false=>
  rw [Log.xF h0 hf];obtain ⟨s1,s2,s3,_,s5⟩:=h.keeps.shut;have hnx:(L.shut M).1.1.next=nJ D:=by rw [← h.next];unfold Log.next;rw [s3]
  unfold Log.begin;rw [acr s2];have hcnt:=h.nextn;have hno:bP (L.shut M).1.2.now (name (nJ D:Int))=none:=by
   cases hi:bP (L.shut M).1.2.now (name (nJ D:Int)) with
   |none=>rfl
   |some i=>
    rw [s5.now]at hi;obtain ⟨d,hd,e⟩:=h.cover (nJ D) i oQ hi;have:=Zn h.rise hd;omega
  have hl5:(L.shut M).1.2.now.length<500:=by rw [s5.now];exact hnm
  have hcm:=s1.calm;generalize nJ D=c at *
  generalize (L.shut M).1.1=L1 at *
  generalize (L.shut M).1.2=M1 at *
  unfold Log.jw;rw [hnx,abA oQ];obtain ⟨c1,c2,_,_,_⟩:=I4 hcm (Oi (c:Int) oQ oQ) hno hl5;have hc1:=hcm.create (name (c:Int));have hself:bP (M1.create (name (c:Int))).1.now (name (c:Int))=some M1.files.length:=by rw [c2];exact Dj hcm.ok.gG.mG _ _
  rw [abA (fun q=>q c1)];rcases vP hc1.quiet (name (c:Int)) (mag++(ah.encode x).1) with ⟨q1,_⟩|⟨j,q1,⟨q2,q3⟩|⟨q2,q3⟩⟩
  ·rw [hself]at q1;cases q1
  ·right;rw [q3,abA (by simp),acr rfl];simp only;rw [acr (by rw [Gp hc1.quiet hself])]
  ·left;rw [q3,acr rfl]
theorem HD.append (h:HD K r E B n L M D) (hn:n<1000) (x:ah.aG) (hk:x.key.length=32) (hd:x.data.length≤300) (h0:(ah.encode x).2=0) (hz:(L.append M x).2.2=0∨M.used+400≤M.room∧M.now.length<500) :
  (L.append M x).2.2=0∧(L.append M x).1.1.on=true∧(L.append M x).1.1.limit=L.limit∧HD (K+4) r E B (n+1) (L.append M x).1.1 (L.append M x).1.2 (rO D (L.fits (ah.encode x).1.length) x):=by
 have hzz:=afD h0 hk hd;have hK:=(h.keeps.append x hk).1;have hu:=h.used;have hroom:=h.keeps.calm.room;cases hf:L.fits (ah.encode x).1.length with
 |true=>
  rw [Log.zL h0 hf]at hK hz ⊢;have hf':=hf;unfold Log.fits at hf';rw [adg,acF]at hf';obtain ⟨s,hl⟩:=h.keeps.log.last hf'.1;obtain ⟨D0,⟨c,es⟩,rfl⟩:∃ D0 e,D=D0++[e]:=by
   rcases List.eq_nil_or_concat D with e|⟨D0,e,rfl⟩
   ·rw [h.l,e]at hl;cases hl
   ·exact ⟨D0,e,List.concat_eq_append⟩
  have hmem:(c,es)∈D0++[(c,es)]:=by simp
  have Jl:=h.l;rw [acI,acS,adw]at Jl;rw [Jl,anT]at hl;simp only [List.getLast?_singleton,Option.some_or,Option.some.injEq]at hl;subst hl;have hl:L.l.getLast?=some ((c:Int),8+((encs es).length:Int)):=by rw [Jl,anT];simp
  have hcn:c<n:=h.lim _ hmem;obtain ⟨i,hi⟩:=h.keeps.has _ (agv hl);simp only at hi;have hall:=h.file _ hmem;simp only at hall;have hrm:M.used+(ah.encode x).1.length≤M.room:=by
   rcases hz with hz|⟨hz,_⟩
   ·rcases vP h.keeps.calm.quiet (name (c:Int)) (ah.encode x).1 with ⟨q1,_⟩|⟨j,q1,⟨q2,q3⟩|⟨q2,q3⟩⟩
    ·rw [hi]at q1;cases q1
    ·unfold Log.grow at hz;rw [hl]at hz;simp only [q3]at hz;rw [abA aN]at hz;exact absurd (show (11:Int)=0 from hz) aN
    ·omega
   ·omega
  obtain ⟨a1,a2,a3,a4,a5⟩:=II h.keeps.calm hi (ah.encode x).1 hrm;have hE:L.grow M (ah.encode x).1=(({ L with l:=L.l.dropLast++[((c:Int),8+((encs es).length:Int)+((ah.encode x).1.length:Int))] },(M.append (name (c:Int)) (ah.encode x).1).1),⟨(c:Int),8+((encs es).length:Int),(ah.encode x).1.length⟩,0):=by
   unfold Log.grow;rw [hl];simp only [a1,anJ]
  rw [hE]at hK ⊢;simp only at hK ⊢;rw [hall]at a4;have hsz:(encs (es++[x])).length=(encs es).length+(ah.encode x).1.length:=by rw [xP,ET,aaK]
  have hput:rO (D0++[(c,es)]) true x=D0++[(c,es++[x])]:=by unfold rO;rw [acr rfl];simp
  rw [hput];have a4':(M.append (name (c:Int)) (ah.encode x).1).1.all (name (c:Int))=(mag++encs (es++[x]),0):=by rw [a4,xP,ET];simp
  have hr:=h.rise;rw [ahE]at hr;refine ⟨by first|trivial|rfl,hf'.1,by first|trivial|rfl,⟨hK,?_,?_,?_,?_,?_,?_,?_,?_⟩⟩
  ·show L.l.dropLast++_=_;rw [Jl,acI,List.dropLast_concat,acS,adw,hsz];simp only [List.append_cancel_left_eq,List.cons.injEq,Prod.mk.injEq,true_and,and_true];omega
  ·rw [ahE];refine ⟨hr.1,List.pairwise_singleton _ _,fun a ha b hb=>?_⟩;rw [acO.1 hb];exact hr.2.2 a ha (c,es) (by simp)
  ·intro d hd;rcases ac3.1 hd with hd|hd
   ·exact Nat.lt_succ_of_lt (h.lim d (ac3.2 (.inl hd)))
   ·rw [acO.1 hd];exact Nat.lt_succ_of_lt hcn
  ·intro d hd;rcases ac3.1 hd with hd|hd
   ·have h1:=hr.2.2 d hd (c,es) (by simp);have h2:=h.lim d (ac3.2 (.inl hd));simp only at h1;rw [a5 _ (fun e=>by have:=AU oQ oQ oQ oQ e;omega)];exact h.file d (ac3.2 (.inl hd))
   ·rw [acO.1 hd];exact a4'
  ·intro d hd;rcases ac3.1 hd with hd|hd
   ·exact h.good d (ac3.2 (.inl hd))
   ·rw [acO.1 hd];refine ⟨fun y hy=>?_,by simp⟩;rcases ac3.1 hy with hy|hy
    ·exact (h.good _ hmem).1 y hy
    ·rw [acO.1 hy];exact ⟨h0,hk⟩
  ·rw [a3];omega
  ·rw [a2];have:=h.names;omega
  ·intro k j hkk hj;rw [a2]at hj;obtain ⟨d,hd,e⟩:=h.cover k j hkk hj;rcases ac3.1 hd with hd|hd
   ·exact ⟨d,ac3.2 (.inl hd),e⟩
   ·rw [acO.1 hd]at e;exact ⟨(c,es++[x]),by simp,e⟩
 |false=>
  rw [Log.xF h0 hf]at hK hz ⊢;obtain ⟨s1,s2,s3,s4,s5⟩:=h.keeps.shut;have hlim:=Log.alB L M;have hB:L.begin M (ah.encode x).1=(L.shut M).1.1.jw (L.shut M).1.2 (ah.encode x).1:=by unfold Log.begin;rw [acr s2]
  rw [hB]at hK hz ⊢;have hnx:(L.shut M).1.1.next=nJ D:=by rw [← h.next];unfold Log.next;rw [s3]
  have agQ:=s5.all;have je:=s5.now;have FK:=s5.used;have anC:=s1.calm.room;have hcn:=h.nextn;have OE:∀ d∈D,d.1<nJ D:=fun d hd=>Zn h.rise hd;have hput:rO D false x=D++[(nJ D,[x])]:=by unfold rO;rw [abA aN]
  rw [hput];generalize nJ D=c at *
  generalize (L.shut M).1.1=L1 at *
  generalize (L.shut M).1.2=M1 at *
  have hnn:bP M1.now (name (c:Int))=none:=by
   cases hq:bP M1.now (name (c:Int)) with
   |none=>rfl
   |some i=>
    exfalso;rw [je]at hq;obtain ⟨d,hd,e⟩:=h.cover c i oQ hq;have:=OE d hd;omega
  have ag3:M1.now.length<500:=by
   rcases hz with hz|⟨_,hz⟩
   ·rcases ER s1.calm.quiet (name (c:Int)) with ⟨q1,_,_⟩|⟨_,_,q3,_⟩
    ·unfold Log.jw at hz;rw [hnx,abA oQ,acr q1]at hz;exact absurd hz q1
    ·exact q3
   ·rw [je];exact hz
  obtain ⟨c1,c2,c3,c4,c5⟩:=I4 s1.calm (Oi (c:Int) oQ oQ) hnn ag3;have hc1:=s1.calm.create (name (c:Int));have hself:bP (M1.create (name (c:Int))).1.now (name (c:Int))=some M1.files.length:=by rw [c2];exact Dj s1.calm.ok.gG.mG _ _
  have hrm:(M1.create (name (c:Int))).1.used+(mag++(ah.encode x).1).length≤(M1.create (name (c:Int))).1.room:=by
   rcases hz with hz|⟨hz,_⟩
   ·rcases vP hc1.quiet (name (c:Int)) (mag++(ah.encode x).1) with ⟨q1,_⟩|⟨j,q1,⟨q2,q3⟩|⟨q2,q3⟩⟩
    ·rw [hself]at q1;cases q1
    ·unfold Log.jw at hz;rw [hnx,abA oQ,abA (fun hh=>hh c1)]at hz;simp only [q3]at hz;rw [abA aN]at hz;simp only [anJ]at hz;split at hz
     ·exact absurd hz aN
     ·rename_i g;exact absurd hz g
    ·omega
   ·rw [c3,FK,hc1.room,aaK];have:mag.length=8:=rfl;omega
  obtain ⟨a1,a2,a3,a4,a5⟩:=II hc1 hself (mag++(ah.encode x).1) hrm;have hE:L1.jw M1 (ah.encode x).1=(({ L1 with l:=L1.l++[((c:Int),8+((ah.encode x).1.length:Int))],on:=true,fresh:=L1.fresh+1 },((M1.create (name (c:Int))).1.append (name (c:Int)) (mag++(ah.encode x).1)).1),⟨(c:Int),8,(ah.encode x).1.length⟩,0):=by
   unfold Log.jw;rw [hnx,abA oQ,abA (fun hh=>hh c1),acr a1]
  rw [hE]at hK ⊢;simp only at hK ⊢;rw [c4]at a4;have a4':((M1.create (name (c:Int))).1.append (name (c:Int)) (mag++(ah.encode x).1)).1.all (name (c:Int))=(mag++encs [x],0):=by rw [a4,ET];simp
  refine ⟨by first|trivial|rfl,by first|trivial|rfl,hlim,⟨hK,?_,?_,?_,?_,?_,?_,?_,?_⟩⟩
  ·simp only [s3,h.l,acI,acS,adw,ET]
  ·rw [ahE];refine ⟨h.rise,List.pairwise_singleton _ _,fun a ha b hb=>?_⟩;rw [acO.1 hb];exact OE a ha
  ·intro d hd;rcases ac3.1 hd with hd|hd
   ·exact Nat.lt_succ_of_lt (h.lim d hd)
   ·rw [acO.1 hd];exact Nat.lt_succ_of_le hcn
  ·intro d hd;rcases ac3.1 hd with hd|hd
   ·have h1:=OE d hd;have hne:name (d.1:Int)≠name (c:Int):=fun e=>by have:=AU oQ oQ oQ oQ e;omega
    rw [a5 _ hne,c5 _ hne,agQ];exact h.file d hd
   ·rw [acO.1 hd];exact a4'
  ·intro d hd;rcases ac3.1 hd with hd|hd
   ·exact h.good d hd
   ·rw [acO.1 hd];exact ⟨fun y hy=>by rw [acO.1 hy];exact ⟨h0,hk⟩,by simp⟩
  ·rw [a3,c3,FK,aaK];have:mag.length=8:=rfl;omega
  ·rw [a2,c2,P7];have:=AV M1.now (name (c:Int));rw [je]at this;have:=h.names;rw [je];omega
  ·intro k j hkk hj;by_cases e:k=c
   ·subst e;exact ⟨(k,[x]),by simp,rfl⟩
   ·rw [a2,c2,Di (fun q=>e (by have:=AU oQ oQ oQ oQ q;omega)),je]at hj;obtain ⟨d,hd,e2⟩:=h.cover k j hkk hj;exact ⟨d,ac3.2 (.inl hd),e2⟩
theorem HD.commit (h:HD K r E B n L M D) (hn:n<1000) (hz:(L.append M bf).2.2=0∨M.used+400≤M.room∧M.now.length<500) :
  (L.commit M).2.2=0∧(L.commit M).1.1.on=false∧(L.commit M).1.1.limit=L.limit∧HD (K+5) r E B (n+1) (L.commit M).1.1 (L.commit M).1.2 (rO D (L.fits (ah.encode bf).1.length) bf):=by
 obtain ⟨a1,a2,a3,a4⟩:=h.append hn bf rfl aN aj hz;obtain ⟨i,hi⟩:=U3 h.keeps bf rfl a1;have iP:=h.keeps.log.commit M;have hcalm:=h.keeps.commit;rw [Log.Cj]at iP hcalm ⊢;rw [abA (fun hh=>hh a1)]at iP hcalm ⊢;generalize L.append M bf=r at *
 obtain ⟨⟨L1,M1⟩,p1,e1⟩:=r;simp only at *
 have hs:=KL a4.keeps.calm.ok a4.keeps.calm.quiet (name p1.seg);have hsc:=a4.keeps.calm.sync (name p1.seg);have es:=a4.keeps.calm.quiet.Gx hi;have es2:(M1.sync (name p1.seg)).2=0:=by rw [es]
 rw [abA (fun hh=>hh es2)]at iP hcalm ⊢;generalize (M1.sync (name p1.seg)).1=M2 at *
 have ed:=hsc.quiet.Gw;have ed2:M2.dR.2=0:=by rw [ed]
 rw [abA (fun hh=>hh ed2)]at iP hcalm ⊢;have had:Alike M2 M2.dR.1:=by rw [ed];exact ⟨rfl,rfl,rfl,fun _ _=>rfl⟩
 have ha:=hs.trans had;exact ⟨rfl,rfl,a3,a4.alike hcalm rfl ha⟩
end
section
variable {K r E B n:Nat}{L:Log}{M:ay}{C:List (List ah.aG)}
theorem JL (C:List (List ah.aG)) (e:List ah.aG):kD (C++[e])=kD C++[(C.length,e)]:=by unfold kD;rw [List.mapIdx_concat]
theorem Zy (b:Bool) (x:ah.aG) (hb:b=true→C≠[]):kD (put C b x)=rO (kD C) b x:=by
 rcases List.eq_nil_or_concat C with rfl|⟨C0,e,rfl⟩
 ·cases b with
  |true=>exact absurd rfl (hb rfl)
  |false=>rfl
 ·rw [List.concat_eq_append];cases b with
  |true=>
   have e1:put (C0++[e]) true x=C0++[e++[x]]:=by unfold put;rw [acr rfl];simp
   rw [e1,JL,JL];unfold rO;rw [acr rfl];simp
  |false=>
   have e1:put (C0++[e]) false x=C0++[e]++[[x]]:=by unfold put;rw [abA aN]
   rw [e1,JL,JL];unfold rO nJ;rw [abA aN];simp
theorem HD.hg (h:HD K r E B n L M (kD C)):HG K r E B n L M C:=by
 have hm:∀ (k:Nat) (es:List ah.aG),C[k]?=some es→(k,es)∈kD C:=fun k es hk=>abV (i:=k) (by rw [uO,hk];rfl);have hl:(kD C).length=C.length:=List.length_mapIdx ..;refine ⟨h.keeps,by rw [h.l,abl,hl],fun k es hk=>?_,fun k es hk=>h.file _ (hm k es hk),fun es he=>?_,?_,h.used,h.names,fun k i hk hi=>?_⟩
 ·rw [h.l,acE,uO,hk];rfl
 ·obtain ⟨k,hk⟩:=an8 he;exact h.good _ (hm k es hk)
 ·rcases Nat.eq_zero_or_pos C.length with q|q
  ·omega
  ·have:=h.lim _ (hm (C.length - 1) _ (aaI oQ));simp only at this;omega
 ·obtain ⟨d,hd,rfl⟩:=h.cover k i hk hi;exact (abW.1 (F6 hd)).1
theorem HG.Aa (h:HG K r E B n L M C){k:Nat}:L.fits k=true→C≠[]:=fun hf=>by
 have h1:=h.keeps.log.on (xU hf);intro e;have:=h.len;rw [e,adF]at this;exact h1 (agl this)
theorem HG.append (h:HG K r E B n L M C) (hn:n<1000) (x:ah.aG) (hk:x.key.length=32) (hd:x.data.length≤300) (h0:(ah.encode x).2=0) (hz:(L.append M x).2.2=0∨M.used+400≤M.room∧M.now.length<500) :
  (L.append M x).2.2=0∧(L.append M x).1.1.on=true∧(L.append M x).1.1.limit=L.limit∧HG (K+4) r E B (n+1) (L.append M x).1.1 (L.append M x).1.2 (put C (L.fits (ah.encode x).1.length) x):=by
 obtain ⟨a1,a2,a3,a4⟩:=h.hd.append hn x hk hd h0 hz;rw [← Zy _ _ h.Aa]at a4;exact ⟨a1,a2,a3,a4.hg⟩
theorem HG.commit (h:HG K r E B n L M C) (hn:n<1000) (hz:(L.append M bf).2.2=0∨M.used+400≤M.room∧M.now.length<500) :
  (L.commit M).2.2=0∧(L.commit M).1.1.on=false∧(L.commit M).1.1.limit=L.limit∧HG (K+5) r E B (n+1) (L.commit M).1.1 (L.commit M).1.2 (put C (L.fits (ah.encode bf).1.length) bf):=by
 obtain ⟨a1,a2,a3,a4⟩:=h.hd.commit hn hz;rw [← Zy _ _ h.Aa]at a4;exact ⟨a1,a2,a3,a4.hg⟩
theorem HG.zK (h:HG K r E B n L M C) (hn:n<1000) (hnm:M.now.length<500){x:ah.aG} (h0:(ah.encode x).2=0):(L.append M x).2.2=0∨(L.append M x).2.2=11:=h.hd.zK hn hnm h0
end
end Go.Seg
namespace Go.Seg
open Go.ay
open Go.ah (encs fH dN aG)
def KQ (d:aG):aG:=if d.tag=0 then ⟨0,d.key,d.data⟩ else if d.tag=1 then ⟨1,d.key,[]⟩ else bf
def YA (d:aG):Prop:=d.tag=0∨d.tag=1
instance (d:aG):Decidable (YA d):=by unfold YA;infer_instance
structure Pl (n:Nat) (ds:List aG) (L:Log) (M:ay) (C:List (List aG)):Prop where
 holds:Holds n L M C
 tail:Tail L.on C
 flat:C.flatten=ds.map KQ
 small:∀ x∈C.flatten,x.data.length≤300
section
variable {n:Nat}{ds:List aG}{L:Log}{M:ay}{C C0:List (List aG)}{d:aG}
theorem abv (hk:d.key.length=32) (hd:d.data.length≤300):(ah.encode (KQ d)).2=0:=by
 have hc:ah.check (KQ d)=0:=by
  unfold KQ;split
  ·unfold ah.check;simp only [anJ];rw [abA oQ]
  split
  ·unfold ah.check;simp
  ·decide
 unfold ah.encode;rw [abA (by simp [hc])]
structure Base (C0:List (List aG)) (on:Bool) (C:List (List aG)):Prop where
 pre:C.take C0.length=C0
 gt:on=true→C0.length<C.length
theorem Base.le {on:Bool} (h:Base C0 on C):C0.length≤C.length:=by
 have:=adu List.length h.pre;rw [acA]at this;omega
theorem Base.start (C:List (List aG)):Base C false C:=⟨adk,fun h=>by cases h⟩
theorem Base.put {on b on':Bool} (h:Base C0 on C) (hb:b=true→on=true) (x:aG):Base C0 on' (put C b x):=by
 unfold Seg.put;cases b with
 |true=>
  have hg:=h.gt (hb rfl);simp only [anJ];refine ⟨?_,fun _=>?_⟩
  ·rw [ado (by rw [ahJ];omega),List.dropLast_eq_take,List.take_take,aoe oQ];exact h.pre
  ·rw [aaK,ahJ,ac7];omega
 |false=>
  simp only [afy,anY];have:=h.le;refine ⟨by rw [ado this];exact h.pre,fun _=>by rw [aaK,ac7];omega⟩
end
end Go.Seg
namespace Go.Rep
open Go.ah (Bs dA aG dN encs fH)
open Go.Seg (aU mag)
open Go.Tab
def qx (l:List Row) (s:Int):Int:=(l.map fun r=>if r.1=s then (r.2.size:Int) else 0).sum
theorem Dz (a b:List Row) (s:Int):qx (a++b) s=qx a s+qx b s:=by unfold qx;rw [acI,List.sum_append]
theorem Pq {l:List Row} (s:Int):∀ i,i≤l.length→0≤live l s i∧live l s i≤qx (l.take i) s
 |0,_=>⟨an2 0,by simp [live,qx]⟩
 |i+1,hi=>by
  have ih:=Pq (l:=l) s i oQ;obtain ⟨r,hr⟩:∃ r,l[i]?=some r:=⟨_,aaI oQ⟩;rw [adD,hr,agU,Dz];have e:qx [r] s=if r.1=s then (r.2.size:Int) else 0:=by unfold qx;simp
  rw [e];unfold live;rw [hr];simp only;by_cases h:r.1=s
  ·rw [acr h];split <;> omega
  ·rw [abA h,abA (fun hh=>h hh.2)];omega
theorem Oa:∀ (es:List aG) (a:Nat),((dN es a).map fun f=>(f.size:Int)).sum=(encs es).length
 |[],_=>rfl
 |x::es,a=>by
  have e:encs (x::es)=(ah.encode x).1++encs es:=rfl;unfold dN;rw [acS,aor,Oa es,e,aaK];simp
theorem Gu (l:List dA) (k s:Int):qx (l.map fun f=>(k,f)) s=if k=s then (l.map fun f=>(f.size:Int)).sum else 0:=by
 unfold qx;rw [aee];by_cases h:k=s
 ·rw [acr h]
  congr 1
  refine amJ fun f _=>?_;simp [h]
 ·rw [abA h]
  induction l with
  |nil=>rfl
  |cons f l ih=>rw [acS,aor,ih];simp [h]
theorem aa7:∀ (C:List (List aG)) (k:Nat) (s:Int),s<k→qx (dW k C) s=0
 |[],_,_,_=>rfl
 |es::C,k,s,h=>by
  unfold dW;rw [Dz,aa7 C (k+1) s oQ,Gu,abA oQ];rfl
theorem aa6:∀ (C:List (List aG)) (k j:Nat) (es:List aG),C[j]?=some es→qx (dW k C) ((k+j:Nat):Int)=(encs es).length
 |[],_,_,_,h=>by simp at h
 |fs::C,k,0,es,h=>by
  obtain rfl:fs=es:=by simpa using h
  unfold dW;rw [Dz,aa7 C (k+1) _ oQ,Gu,acr (by simp),Oa];simp
 |fs::C,k,j+1,es,h=>by
  unfold dW;rw [Dz,Gu,abA oQ];have:=aa6 C (k+1) j es (by simpa using h);rw [show k+(j+1)=k+1+j by omega,this];simp
end Go.Rep
namespace Go.Seg
open Go.ay
structure Fit (K:Nat) (D:ay):Prop where
 ok:D.Ok K
 small:D.Small
 files:D.files.length≤500+K
section
variable {φ:Nat→Nat}{V:Nat→Prop}{M D:ay}{K:Nat}{L:Log}
end
end Go.Seg
namespace Go.Proofs.YtihngncbioofnaaGreatDoor
open Go Go.Sl Go.ay Go.MapKept Go.RowKit
section
variable {P:Program}{w0 w:World}{L L':List aH}{b o:Nat}{ops:Array Oper}{a:Act}{Q:Exit→Act→World→Prop}{dst:Option Tmp}{t ty T:TypeId}{pos:String}{after:Array Edge}{x y:Operand}{cs:Array Value}{v:Value}{K:Act→World→Prop}{E:Prop}
theorem lZ (hz:jr P ty=some v) (hs:Sat w0 w L) (hcs:v.cells=cs)
  (hK:∀ b w',Sat w0 w' (pt b (.cells cs ty (0,0))::L)→K (a.put dst (.pointer (some ⟨b,0,none⟩))) w') :
  if Region.wanted ⟨dst,.alloc ty,t,pos,after,none⟩ (yielded ops a.tmps)=true then Oper.wp P ⟨dst,.alloc ty,t,pos,after,none⟩ a w K Q else E:=by
 subst hcs;refine xO rfl ?_;have hS:=hs.alloc (.cells v.cells ty);unfold Oper.wp execOp;have hrun:(Instr.alloc ty true (.tuple #[])).run P w = .ok (.pointer (some ⟨w.heap.size,0,none⟩)) (w.alloc (.cells v.cells ty)):=by
  simp [Instr.alloc,Kr hz w,newVar,newRow,go_sem,Result.andThen]
 simp only [acN,ac1,hrun,acB];exact hK _ _ hS
end
section
variable {w0 w:World}{F R:List aH}{d i:Nat}{D:ay}{Xc fv nv wv v lv bv:Value}{xs:List RF}{x:RF}{g:LG}{K:Nat}
section
variable {P:Program}{b o:Nat}{ops:Array Oper}{rest:List Oper}{a:Act}{Q:Exit→Act→World→Prop}{dst:Option Tmp}{t ty:Nat}{pos:String}{after:Array Edge}{y:Operand}
end
end
section
variable {P:Program}{w0 w:World}{L R:List aH}{ops:Array Oper}{rest:List Oper}{a:Act}{Q:Exit→Act→World→Prop}{dst:Option Tmp}{t ty e:TypeId}{pos:String}{after:Array Edge}{x y s:Operand}{sz eY:Nat}{v v1:Value}
theorem SQ (e:TypeId) (sz eY:Nat){xs ys:List Value} (hb:pG P ty e sz eY=true) (hs:Sat w0 w L) (hv:a.eval s=v) (hy:a.eval y=v1) (p:Pick (aB e sz v xs) L R) (hrd:bG sz v1 ys w) (h1:∀ u∈ys,u.oneCell'=true)
  (h63:xs.length+ys.length≤2147483648) (hby:eY≤65000)
  (hK:∀ v' w',Sat w0 w' (aB e sz v' (xs++ys)::R)→wpList P ops Q rest (a.put dst v') w') :
  wpList P ops Q (⟨dst,.call { callee:= .builtin .append,args:=#[s,y],argTypes:=#[ty,ty] },t,pos,after,none⟩::rest) a w:=by
 obtain ⟨hu,i,z,hi,hz,e1,e2,e3,e4⟩:=xE hb;subst e2;refine y7 (w0:=w0) rfl s y ty rfl e i z hu hi hz e1 e3 e4 hv hy h1 (hs.pick p) hrd (by unfold maxLen;omega) ?_ fun v' w' hS _=>hK v' w' hS
 calc (xs.length+ys.length) * i.bytes≤2147483648 * 65000:=anv h63 hby
  _≤140737488355328:=by decide
end
section
variable {P:Program}{w0 w:World}{F R:List aH}{e:TypeId}{ops:Array Oper}{a:Act}{Q:Exit→Act→World→Prop}{dst:Option Tmp}{ty:TypeId}{t:Nat}{pos:String}{after:Array Edge}{s y:Operand}{v x:Value}{xs ys:List Value}{K:Act→World→Prop}{E:Prop}
end
end Go.Proofs.YtihngncbioofnaaGreatDoor
namespace Go.Seg
open Go.ay
section
variable {φ:Nat→Nat}{V:Nat→Prop}{M D:ay}{K:Nat}{L:Log}
end
structure Two (i:Nat) (L:Log) (M D:ay):Prop where
 log:L.Ok
 ok:M.Ok (i * 2000)
 fit:Fit (i * 2000) D
 side:∃ φ V,Side φ V M D
 fresh:L.fresh≤i
section
variable {i:Nat}{M D:ay}{L:Log}
end
end Go.Seg
namespace Go.ay
section
variable {c c' K:Nat}{f:bH}{M:ay}
end
end Go.ay
namespace Go.Seg
open Go.ay
section
variable {c c' K n:Nat}{L:Log}{M:ay}
theorem aeR:(ah.encode bf).1.length=9:=(BD (x:=bf) aj aj).trans aj
end
def Log.drop (t:List Int):Nat→Log→ay→(Log×ay)×Int
 |0,L,M=>if t=[] then ((L,M),0) else ((L,M.dR.1),M.dR.2)
 |k+1,L,M=>if (L.remove M (t.getD k 0)).2=0 then Log.drop t k (L.remove M (t.getD k 0)).1.1 (L.remove M (t.getD k 0)).1.2 else L.remove M (t.getD k 0)
section
variable {t:List Int}{L:Log}{M D:ay}{K i:Nat}
theorem drop_nil (h:t=[]):Log.drop t 0 L M=((L,M),0):=by unfold Log.drop;rw [acr h]
theorem drop_end (h:t≠[]):Log.drop t 0 L M=((L,M.dR.1),M.dR.2):=by unfold Log.drop;rw [abA h]
theorem afu {k:Nat} (h:(L.remove M (t.getD k 0)).2=0):Log.drop t (k+1) L M=Log.drop t k (L.remove M (t.getD k 0)).1.1 (L.remove M (t.getD k 0)).1.2:=by
 conv=>lhs;unfold Log.drop
 rw [acr h]
theorem afv {k:Nat} (h:(L.remove M (t.getD k 0)).2≠0):Log.drop t (k+1) L M=L.remove M (t.getD k 0):=by
 conv=>lhs;unfold Log.drop
 rw [abA h]
theorem J4 (h:M.Ok K) (n:Int):(L.remove M n).1.2.Ok (K+1):=by
 unfold Log.remove;cases L.at n with
 |none=>exact h.mono (ahD K)
 |some i=>simp only;split <;> exact h.remove _
end
end Go.Seg
