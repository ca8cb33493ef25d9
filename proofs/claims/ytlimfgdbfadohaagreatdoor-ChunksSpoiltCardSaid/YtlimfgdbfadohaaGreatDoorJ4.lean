import Derived.Test.YtlimfgdbfadohaaGreatDoorJ3
import Derived.Laws.IdiomStrings
import Derived.Lib.BufferRead
import Derived.Lib.Bytealg
import Derived.Lib.BytesEntry
import Derived.Sort.Grow
namespace Go.Proofs.YtlimfgdbfadohaaGreatDoor
open Go Go.Sl Go.Med Go.MapKept Go.RowKit
theorem sQ {p : Prop} (h : p := by first | assumption | exact entA_size _ _ rfl | exact entA_size _ _ aQ | exact entA_size _ _ (Hid.out aQ)) : p := h
theorem pQ {p : Prop} (h : p := by first | (simp only [putsAt, Value.cells]; (try go_frame); first | done | rfl) | rfl) : p := h
theorem gQ {p : Prop} (h : p := by go_frame; first | done | rfl) : p := h
theorem fQ {p : Prop} (h : p := by first | rfl | assumption | exact Hid.out aQ) : p := h
theorem wQ {p : Prop} (h : p := by with_reducible rfl) : p := h
end Go.Proofs.YtlimfgdbfadohaaGreatDoor
set_option linter.unusedVariables false
set_option maxHeartbeats 128000000
namespace Go.Seg
open Go.Med
structure Plc where
 seg:Int
 at_:Int
 size:Int
def Plc.zero:Plc:=⟨0,0,0⟩
def mag:Bs:=[72,79,65,82,68,83,69,71]
def Log.grow (L:Log) (M:Med) (b:Bs):(Log×Med)×Plc×Int:=
 match L.l.getLast? with
 |none=>((L,M),Plc.zero,0)
 |some s=>
  if (M.append (name s.1) b).2=0 then (({ L with l:=L.l.dropLast++[(s.1,s.2+(b.length:Int))] },(M.append (name s.1) b).1),⟨s.1,s.2,b.length⟩,0)
  else ((L,(M.append (name s.1) b).1),Plc.zero,(M.append (name s.1) b).2)
def Log.shut (L:Log) (M:Med):(Log×Med)×Int:=
 match L.l.getLast? with
 |none=>((L,M),0)
 |some s=>
  if L.on=true then
   if (M.sync (name s.1)).2=0 then (({ L with on:=false },(M.sync (name s.1)).1),0)
   else ((L,(M.sync (name s.1)).1),(M.sync (name s.1)).2)
  else ((L,M),0)
def Log.begin1 (L:Log) (M:Med) (b:Bs):(Log×Med)×Plc×Int:=
 if 1048576≤L.next then ((L,M),Plc.zero,16)
 else if (M.create (name L.next)).2≠0 then ((L,(M.create (name L.next)).1),Plc.zero,(M.create (name L.next)).2)
 else if ((M.create (name L.next)).1.append (name L.next) (mag++b)).2=0 then
  (({ L with l:=L.l++[(L.next,8+(b.length:Int))],on:=true,fresh:=L.fresh+1 },((M.create (name L.next)).1.append (name L.next) (mag++b)).1),⟨L.next,8,b.length⟩,0)
 else if ((M.create (name L.next)).1.append (name L.next) (mag++b)).2=11 then
  ((L,(((M.create (name L.next)).1.append (name L.next) (mag++b)).1.remove (name L.next)).1),Plc.zero,
   if (((M.create (name L.next)).1.append (name L.next) (mag++b)).1.remove (name L.next)).2=0 then 11 else (((M.create (name L.next)).1.append (name L.next) (mag++b)).1.remove (name L.next)).2)
 else ((L,((M.create (name L.next)).1.append (name L.next) (mag++b)).1),Plc.zero,((M.create (name L.next)).1.append (name L.next) (mag++b)).2)
def Log.begin (L:Log) (M:Med) (b:Bs):(Log×Med)×Plc×Int:=
 if (L.shut M).2=0 then (L.shut M).1.1.begin1 (L.shut M).1.2 b else ((L.shut M).1,Plc.zero,(L.shut M).2)
def Log.fits (L:Log) (n:Nat):Bool:=L.on && decide ((L.l.getLast?.map (·.2)).getD 0+n≤L.limit)
def Log.append (L:Log) (M:Med) (x:Frm.Ent):(Log×Med)×Plc×Int:=
 if (Frm.encode x).2≠0 then ((L,M),Plc.zero,(Frm.encode x).2)
 else if L.fits (Frm.encode x).1.length=true then L.grow M (Frm.encode x).1 else L.begin M (Frm.encode x).1
def comEnt:Frm.Ent:=⟨2,Frm.zero32,[]⟩
def Log.commit (L:Log) (M:Med):(Log×Med)×Int×Int:=
 if (L.append M comEnt).2.2≠0 then ((L.append M comEnt).1,0,(L.append M comEnt).2.2)
 else if ((L.append M comEnt).1.2.sync (name (L.append M comEnt).2.1.seg)).2≠0 then (((L.append M comEnt).1.1,((L.append M comEnt).1.2.sync (name (L.append M comEnt).2.1.seg)).1),0,((L.append M comEnt).1.2.sync (name (L.append M comEnt).2.1.seg)).2)
 else if (((L.append M comEnt).1.2.sync (name (L.append M comEnt).2.1.seg)).1.syncDir).2≠0 then (((L.append M comEnt).1.1,(((L.append M comEnt).1.2.sync (name (L.append M comEnt).2.1.seg)).1.syncDir).1),0,(((L.append M comEnt).1.2.sync (name (L.append M comEnt).2.1.seg)).1.syncDir).2)
 else (({ (L.append M comEnt).1.1 with on:=false,fresh:=0 },(((L.append M comEnt).1.2.sync (name (L.append M comEnt).2.1.seg)).1.syncDir).1),(L.append M comEnt).2.1.seg,0)
def Log.at (L:Log) (n:Int):Option Nat:=L.l.findIdx? (fun s=>s.1==n)
def Log.find (L:Log) (n:Int):Int:=match L.at n with
 |some i=>i
 |none=> -1
def Log.without (L:Log) (i:Nat):Log:=
 ⟨L.limit,L.l.eraseIdx i,if i+1=L.l.length then false else L.on,if (L.l.length:Int) - L.fresh≤i then L.fresh - 1 else L.fresh⟩
def Log.remove (L:Log) (M:Med) (n:Int):(Log×Med)×Int:=
 match L.at n with
 |none=>((L,M),9)
 |some i=>if (M.remove (name n)).2=0 then ((L.without i,(M.remove (name n)).1),0) else ((L,(M.remove (name n)).1),(M.remove (name n)).2)
def Log.size (L:Log) (n:Int):Int:=match L.at n with
 |none=>0
 |some i=>(L.l.getD i (0,0)).2
def Log.bytes (L:Log) (M:Med) (n:Int):Bs×Int:=match L.at n with
 |none=>([],9)
 |some _=>M.all (name n)
structure Log.Ok (L:Log):Prop where
 limit:128≤L.limit∧L.limit≤1048576
 rise:(L.l.map (·.1)).Pairwise (· < ·)
 nums:∀ s∈L.l,0≤s.1∧s.1<1048576
 sizes:∀ s∈L.l,0≤s.2∧s.2≤33554432
 fresh:0≤L.fresh∧L.fresh≤L.l.length
 on:L.on=true→L.l≠[]
theorem rise_len:∀ (l:List Int) (a:Int),l.Pairwise (· < ·)→(∀ x∈l,a≤x)→(∀ x∈l,x<1048576)→a≤1048576→(l.length:Int)≤1048576 - a
 |[],a,_,_,_,h=>by simp;omega
 |x::l,a,hp,h1,h2,h3=>by
  obtain ⟨hx,hp'⟩:=List.pairwise_cons.1 hp
  have e1:=h1 x (.head _)
  have e2:=h2 x (.head _)
  have:=rise_len l (x+1) hp' (fun y hy=>by have:=hx y hy;omega) (fun y hy=>h2 y (.tail _ hy)) oQ
  rw [List.length_cons];omega
theorem Log.Ok.len {L:Log} (h:L.Ok):L.l.length≤1048576:=by
 have:=rise_len (L.l.map (·.1)) 0 h.rise (by intro x hx;obtain ⟨s,hs,rfl⟩:=List.mem_map.1 hx;exact (h.nums s hs).1) (by intro x hx;obtain ⟨s,hs,rfl⟩:=List.mem_map.1 hx;exact (h.nums s hs).2) oQ
 rw [List.length_map]at this
 omega
theorem Log.Ok.shut {L:Log} (h:L.Ok) (M:Med):(L.shut M).1.1.Ok:=by
 unfold Log.shut
 split;· exact h
 split
 ·split
  ·exact ⟨h.limit,h.rise,h.nums,h.sizes,h.fresh,fun hh=>by cases hh⟩
  ·exact h
 ·exact h
theorem last_split {L:Log}{s:Int×Int} (h:L.l.getLast?=some s):L.l=L.l.dropLast++[s]:=by
 have hne:L.l≠[]:=by intro e;rw [e]at h;cases h
 have h2:=List.dropLast_concat_getLast hne
 rw [List.getLast?_eq_some_getLast hne]at h
 cases h
 exact h2.symm
theorem last_len {L:Log}{s:Int×Int} (h:L.l.getLast?=some s):L.l.length=L.l.dropLast.length+1:=by
 have:=congrArg List.length (last_split h)
 rw [List.length_append,List.length_singleton]at this
 exact this
theorem Log.Ok.next {L:Log} (h:L.Ok):0≤L.next∧L.next≤1048576∧∀ s∈L.l,s.1<L.next:=by
 unfold Log.next
 cases hl:L.l.getLast? with
 |none=>
  have:=List.getLast?_eq_none_iff.1 hl
  simp [this]
 |some s=>
  have hs:=h.nums s (List.mem_of_getLast? hl)
  refine ⟨by simp only;omega,by simp only;omega,?_⟩
  have e:=last_split hl
  have hr:=h.rise
  rw [e,List.map_append,List.pairwise_append]at hr
  intro t ht
  rw [e]at ht
  rcases List.mem_append.1 ht with ht|ht
  ·have:=hr.2.2 t.1 (List.mem_map.2 ⟨t,ht,rfl⟩) s.1 (by simp)
   simp only;omega
  ·rw [List.mem_singleton.1 ht];simp only;omega
theorem Log.Ok.snoc {L:Log} (h:L.Ok) (hn:L.next<1048576) (z:Nat) (hz:z≤16777216):({ L with l:=L.l++[(L.next,8+(z:Int))],on:=true,fresh:=L.fresh+1 }:Log).Ok:=by
 obtain ⟨n1,n2,n3⟩:=h.next
 have hf:=h.fresh
 refine ⟨h.limit,?_,?_,?_,⟨by simp only;omega,by simp only [List.length_append,List.length_singleton];omega⟩,fun _=>by simp⟩
 ·simp only
  rw [List.map_append,List.pairwise_append]
  refine ⟨h.rise,by simp,?_⟩
  intro a ha b hb
  obtain ⟨s,hs,rfl⟩:=List.mem_map.1 ha
  simp only [List.map_cons,List.map_nil,List.mem_singleton]at hb
  subst hb
  exact n3 s hs
 ·intro s hs
  rcases List.mem_append.1 hs with hs|hs
  ·exact h.nums s hs
  ·rw [List.mem_singleton.1 hs];exact ⟨n1,hn⟩
 ·intro s hs
  rcases List.mem_append.1 hs with hs|hs
  ·exact h.sizes s hs
  ·rw [List.mem_singleton.1 hs];exact ⟨by simp only;omega,by simp only;omega⟩
theorem Log.Ok.begin1 {L:Log} (h:L.Ok) (M:Med) (b:Bs) (hb:b.length≤16777216):(L.begin1 M b).1.1.Ok:=by
 unfold Log.begin1
 split;· exact h
 rename_i hn
 split;· exact h
 split;· exact h.snoc oQ _ hb
 split;· exact h
 exact h
theorem Log.Ok.grow {L:Log} (h:L.Ok) (M:Med) (b:Bs) (hf:L.fits b.length=true):(L.grow M b).1.1.Ok:=by
 unfold Log.grow
 split;· exact h
 rename_i s hl
 split
 ·have e:=last_split hl
  have hr:=h.rise
  have hlen:L.l.length=L.l.dropLast.length+1:=last_len hl
  unfold Log.fits at hf
  rw [Bool.and_eq_true,decide_eq_true_eq,hl]at hf
  have hlim:=h.limit
  refine ⟨h.limit,?_,?_,?_,?_,fun _=>by simp⟩
  ·rw [e]at hr;simpa using hr
  ·intro t ht
   rcases List.mem_append.1 ht with ht|ht
   ·exact h.nums t (by rw [e];exact List.mem_append_left _ ht)
   ·rw [List.mem_singleton.1 ht]
    exact h.nums s (List.mem_of_getLast? hl)
  ·intro t ht
   rcases List.mem_append.1 ht with ht|ht
   ·exact h.sizes t (by rw [e];exact List.mem_append_left _ ht)
   ·rw [List.mem_singleton.1 ht]
    have:=h.sizes s (List.mem_of_getLast? hl)
    have h2:s.2+(b.length:Int)≤L.limit:=hf.2
    simp only;omega
  ·have:=h.fresh
   simp only [List.length_append,List.length_singleton]
   omega
 ·exact h
theorem encode_len (x:Frm.Ent) (hk:x.key.length=32):(Frm.encode x).1.length≤16425:=by
 unfold Frm.encode
 split;· simp
 rename_i hc
 have hd:x.data.length≤16384:=by
  unfold Frm.check at hc
  repeat' split at hc
  all_goals first|omega|simp at hc
 unfold Frm.body
 simp only [List.length_append,Frm.le_len,List.length_singleton]
 split
 ·simp;omega
 ·omega
theorem Log.Ok.without {L:Log} (h:L.Ok) (i:Nat) (hi:i<L.l.length):(L.without i).Ok:=by
 have hsub:(L.l.eraseIdx i).Sublist L.l:=List.eraseIdx_sublist _ _
 have hlen:(L.l.eraseIdx i).length=L.l.length - 1:=List.length_eraseIdx_of_lt hi
 have hf:=h.fresh
 refine ⟨h.limit,h.rise.sublist (hsub.map _),fun s hs=>h.nums s (hsub.mem hs),fun s hs=>h.sizes s (hsub.mem hs),?_,?_⟩
 ·unfold Log.without
  simp only [hlen]
  split <;> omega
 ·unfold Log.without
  simp only
  split
  ·intro hh;cases hh
  ·intro _ e
   have:=congrArg List.length e
   rw [hlen]at this
   simp at this
   omega
theorem Log.at_lt {L:Log}{n:Int}{i:Nat} (h:L.at n=some i):i<L.l.length∧∃ s,L.l[i]?=some s∧s.1=n:=by
 unfold Log.at at h
 rw [List.findIdx?_eq_some_iff_getElem]at h
 obtain ⟨h1,h2,_⟩:=h
 exact ⟨h1,_,List.getElem?_eq_getElem h1,by simpa using h2⟩
theorem Log.Ok.remove {L:Log} (h:L.Ok) (M:Med) (n:Int):(L.remove M n).1.1.Ok:=by
 unfold Log.remove
 split;· exact h
 rename_i i hi
 split
 ·exact h.without i (Log.at_lt hi).1
 ·exact h
theorem Log.Ok.at_last {L:Log} (h:L.Ok){s:Int×Int} (hl:L.l.getLast?=some s):L.at s.1=some (L.l.length - 1):=by
 have e:=last_split hl
 have hlen:L.l.length=L.l.dropLast.length+1:=last_len hl
 have hr:=h.rise
 rw [e,List.map_append,List.pairwise_append]at hr
 unfold Log.at
 rw [List.findIdx?_eq_some_iff_getElem]
 refine ⟨by omega,?_,?_⟩
 ·have:L.l[L.l.length - 1]?=some s:=by rw [← List.getLast?_eq_getElem?];exact hl
  obtain ⟨h1,h2⟩:=List.getElem?_eq_some_iff.1 this
  rw [h2];simp
 ·intro j hj
  have hj':j<L.l.dropLast.length:=oQ
  have hx:L.l[j]'oQ=L.l.dropLast[j]:=by rw [List.getElem_dropLast]
  have h3:(L.l.dropLast[j]).1<s.1:=hr.2.2 (L.l.dropLast[j]).1 (List.mem_map.2 ⟨_,List.getElem_mem hj',rfl⟩) s.1 (by simp)
  rw [hx]
  rw [Bool.not_eq_true,beq_eq_false_iff_ne]
  omega
def Log.back:Nat→Log→Med→(Log×Med)×Int
 |0,L,M=>(({ L with on:=false },M),0)
 |k+1,L,M=>
  match L.l.getLast? with
  |none=>(({ L with on:=false },M),0)
  |some s=>if (L.remove M s.1).2=0 then Log.back k (L.remove M s.1).1.1 (L.remove M s.1).1.2 else L.remove M s.1
end Go.Seg
namespace Go.Proofs.YtlimfgdbfadohaaGreatDoor
open Go Go.Sl Go.Med Go.MapKept Go.RowKit
section
variable {w0 w:World}{L L' R:List HProp}{b:Nat}{ops:Array Oper}{rest:List Oper}{a:Act}{Q:Exit→Act→World→Prop}
variable {dst:Option Tmp}{t T:TypeId}{pos:String}{after:Array Edge}{x y:Operand}{cs:Array Value}{v:Value}{e:Frm.Ent}{da:Option Addr}{dn dc:Nat}
theorem run_buildTag (tag:Int) (w:World):(Instr.build 137 #[(0,.int .i64 tag)]).run Tryz.prog w = .ok (.agg (entA ⟨tag,Frm.zero32,[]⟩ (.slice none 0 0))) w:=by
 have hz:(entA Frm.zeroE (.slice none 0 0)).size=34:=entA_size _ _ rfl
 have h:=run_build (P:=Tryz.prog) [(0,.int .i64 tag)] plEnt zEnt (by
  intro p hp
  rw [List.mem_singleton]at hp
  subst hp
  have hzz:zeroEntV.cells.size=34:=hz
  rw [hzz]
  exact ⟨0,rfl,by show 0+1≤34;omega⟩) w
 exact h
theorem wl_buildTag {tag:Int} (hx:a.eval x = .int .i64 tag) (h:wpList Tryz.prog ops Q rest (a.put dst (.agg (entA ⟨tag,Frm.zero32,[]⟩ (.slice none 0 0)))) w):wpList Tryz.prog ops Q (⟨dst,.build 137 #[(0,x)],t,pos,after,none⟩::rest) a w:=
 wpList_plain rfl fun _ hK=>by
  unfold Oper.wp execOp
  simp only [List.map_toArray,List.map_cons,List.map_nil,hx,Sem.run_bind,run_buildTag,Result.andThen_ok,Sem.run_pure]
  exact hK _ _ h
theorem wl_buildZ (h:wpList Tryz.prog ops Q rest (a.put dst (.agg (entA Frm.zeroE (.slice none 0 0)))) w):wpList Tryz.prog ops Q (⟨dst,.build 137 #[],t,pos,after,none⟩::rest) a w:=
 wpList_plain rfl fun _ hK=>by
  unfold Oper.wp execOp
  simp only [List.map_toArray,List.map_nil,Sem.run_bind,run_zeroEnt,Result.andThen_ok,Sem.run_pure]
  exact hK _ _ h
theorem at_buildTag (h:Stop (wpList Tryz.prog ops Q (⟨dst,.build 137 #[(0,x)],t,pos,after,none⟩::rest) a w)):wpList Tryz.prog ops Q (⟨dst,.build 137 #[(0,x)],t,pos,after,none⟩::rest) a w:=h.out
theorem at_buildZ (h:Stop (wpList Tryz.prog ops Q (⟨dst,.build 137 #[],t,pos,after,none⟩::rest) a w)):wpList Tryz.prog ops Q (⟨dst,.build 137 #[],t,pos,after,none⟩::rest) a w:=h.out
theorem wl_slice2 {P:Program}{ty:TypeId}{z:Operand}{vx vy vz:Value} (hx:a.eval x=vx) (hy:a.eval y=vy) (hz:a.eval z=vz) (hr:∀ w,(Instr.sliceAt ty vx (some vy) (some vz) none).run P w = .ok v w)
  (h:wpList P ops Q rest (a.put dst v) w):wpList P ops Q (⟨dst,.slice ty x (some y) (some z) none,t,pos,after,none⟩::rest) a w:=
 wpList_plain rfl fun _ hK=>by
  unfold Oper.wp execOp
  simp only [hx,hy,hz,Option.map_some,Option.map_none,Sem.run_bind,hr,Result.andThen_ok,Sem.run_pure]
  exact hK _ _ h
theorem at_slice2 {P:Program}{ty:TypeId}{z:Operand} (h:Stop (wpList P ops Q (⟨dst,.slice ty x (some y) (some z) none,t,pos,after,none⟩::rest) a w)):wpList P ops Q (⟨dst,.slice ty x (some y) (some z) none,t,pos,after,none⟩::rest) a w:=h.out
theorem run_arrKey (ad:Addr) (c:Nat) (w:World):(Instr.arrayAt 30 (.slice (some ad) 32 c)).run Tryz.prog w = .ok (.pointer (some ad)) w:=by
 simp [Instr.arrayAt,run_underlying (P:=Tryz.prog) Tryz.underlying30]
theorem puts_key {e:Frm.Ent}{dv:Value} (hk:e.key.length=32) (key:Bs) (hk2:key.length=32):putsAt (entA e dv) 1 (bys key)=entA ⟨e.tag,key,e.data⟩ dv:=by
 apply putsAt_eq
 have hz:=entA_size e dv hk
 have h1:(bys key).length=32:=by rw [bys_len,hk2]
 have h2:(bys e.key).length=32:=by rw [bys_len,hk]
 rw [putsAt_list _ _ _ oQ]
 unfold entA entL
 rw [List.toList_toArray,List.toList_toArray,h1,show 1+32=32+1 by omega,List.drop_succ_cons,List.take_succ_cons,List.take_zero,List.drop_append_of_le_length oQ,List.drop_of_length_le oQ]
 simp
theorem puts_data {e:Frm.Ent}{dv:Value} (hk:e.key.length=32) (data:Bs) (dv2:Value):putsAt (entA e dv) 33 [dv2]=entA ⟨e.tag,e.key,data⟩ dv2:=by
 apply putsAt_eq
 have hz:=entA_size e dv hk
 have h2:(bys e.key).length=32:=by rw [bys_len,hk]
 rw [putsAt_list _ _ _ (by simp;omega)]
 unfold entA entL
 rw [List.toList_toArray,List.toList_toArray,List.length_singleton,show 33+1=33+1 from rfl,List.drop_succ_cons,List.take_succ_cons,List.take_append_of_le_length oQ,List.take_of_length_le oQ,List.drop_of_length_le (by simp;omega)]
 simp
theorem infoKey:(Tryz.prog.info? 30).map (·.size)=some 32:=by kernel_rfl
theorem infoSl:(Tryz.prog.info? 27).map (·.size)=some 1:=by kernel_rfl
theorem wl_storeK {dv:Value}{key:Bs} (hs:Sat w0 w L) (hx:a.eval x = .pointer (some ⟨b,1,none⟩)) (hy:a.eval y = .agg (bys key).toArray) (hk:e.key.length=32) (hk2:key.length=32) (u:Upd (pt b (.cells (entA e dv) T (0,0))) (pt b (.cells (entA ⟨e.tag,key,e.data⟩ dv) T (0,0))) L L')
  (hK:∀ w',Sat w0 w' L'→wpList Tryz.prog ops Q rest (a.put dst undef) w'):wpList Tryz.prog ops Q (⟨dst,.store 30 x y,t,pos,after,none⟩::rest) a w:=by
 obtain ⟨R',h2,h3⟩:=u
 have hz:=entA_size e dv hk
 have hb:(bys key).toArray.size=32:=by simp [bys,hk2]
 refine wpList_store_sat (w0:=w0) rfl 30 x y rfl 1 (.agg (bys key).toArray) hx hy (show 1+(bys key).toArray.size≤(entA e dv).size by omega) (show _=some (bys key).toArray.size by rw [hb];exact infoKey) ?_ (hs.perm h2) fun w' hS=>hK w' ?_
 ·show (bys key).toArray.all _=true
  rw [← Array.all_toList]
  exact List.all_eq_true.2 (bys_one _)
 ·have he:putsAt (entA e dv) 1 (Value.agg (bys key).toArray).cells.toList=entA ⟨e.tag,key,e.data⟩ dv:=puts_key hk key hk2
  rw [he]at hS
  exact hS.perm h3.symm
theorem wl_storeD {dv:Value}{data:Bs} (hs:Sat w0 w L) (hx:a.eval x = .pointer (some ⟨b,33,none⟩)) (hy:a.eval y = .slice da dn dc) (hk:e.key.length=32) (u:Upd (pt b (.cells (entA e dv) T (0,0))) (pt b (.cells (entA ⟨e.tag,e.key,data⟩ (.slice da dn dc)) T (0,0))) L L')
  (hK:∀ w',Sat w0 w' L'→wpList Tryz.prog ops Q rest (a.put dst undef) w'):wpList Tryz.prog ops Q (⟨dst,.store 27 x y,t,pos,after,none⟩::rest) a w:=by
 obtain ⟨R',h2,h3⟩:=u
 have hz:=entA_size e dv hk
 refine wpList_store_sat (w0:=w0) rfl 27 x y rfl 33 (.slice da dn dc) hx hy (show 33+1≤(entA e dv).size by omega) infoSl (by simp [Value.cells,Value.oneCell']) (hs.perm h2) fun w' hS=>hK w' ?_
 have he:putsAt (entA e dv) 33 (Value.slice da dn dc).cells.toList=entA ⟨e.tag,e.key,data⟩ (.slice da dn dc):=puts_data hk data _
 rw [he]at hS
 exact hS.perm h3.symm
theorem res_entE3 {fn:Func}{p u q:Tmp}{tmps:Array Value} (hf:fn.results=#[.cell p 137,.tmp u,.tmp q]) (hs:Sat w0 w L) (hp:tmps.getD p undef = .pointer (some ⟨b,0,none⟩)) (k:Pick (pt b (.cells (entA e (.slice da dn dc)) T (0,0))) L R) (hk:e.key.length=32) :
  (results fn tmps).run Tryz.prog w = .ok (.tuple #[.agg (entA e (.slice da dn dc)),tmps.getD u undef,tmps.getD q undef]) w:=by
 have hl:=run_loadVar_row (P:=Tryz.prog) w b T 137 (entA e (.slice da dn dc)) (0,0) _ (hs.pick k).at Tryz.underlying137 rFz (by rw [entA_size e _ hk];exact infoEntSize)
 have hp':tmps[p]?.getD undef = .pointer (some ⟨b,0,none⟩):=by simpa using hp
 simp [results,hf,hp',asAddr,hl,Result.andThen]
end
section
variable {w0 w:World}{F R:List HProp}{v bv dv x lv:Value}
theorem rdsl_sub {l:Bs}{bk off n c:Nat} (h:rdsl 1 (.slice (some ⟨bk,off,none⟩) n c) (bys l) w) (i j c':Nat) (hij:i≤j) (hj:j≤l.length):rdsl 1 (.slice (some ⟨bk,off+i,none⟩) (j - i) c') (bys ((l.take j).drop i)) w:=by
 obtain ⟨a',n',c'',he,hl,hx⟩:=h
 cases he
 refine ⟨_,_,_,rfl,by rw [bys_len,List.length_drop,List.length_take];omega,fun k y hk=>⟨_,rfl,?_⟩⟩
 have hk':(bys l)[i+k]?=some y:=by
  unfold bys at hk ⊢
  rw [List.map_drop,List.map_take,List.getElem?_drop,List.getElem?_take]at hk
  split at hk
  ·exact hk
  ·cases hk
 obtain ⟨b',hb',hc⟩:=hx _ _ hk'
 cases hb'
 rw [Addr.add_mid]at hc ⊢
 rw [Nat.add_assoc];exact hc
end
section
variable {w0 w:World}{F R:List HProp}{v bv dv x lv:Value}
set_option maxRecDepth 20000 in
theorem fread_c (l:Bs) (hr:Ro w0 F (rdsl 1 bv (bys l))) (hcap:capOk bv) (hH:Ro w0 F Half) (hl:l.length≤1099511627776) (h:Sat w0 w F) :
  Calls Tryz.prog 100 #[bv] w (Rtn fun v w'=>∃ da dc,v = .tuple #[.agg (entA (Frm.read l).1 (.slice da (Frm.read l).1.data.length dc)),.int .i64 (Frm.read l).2.1,errno (Frm.read l).2.2]∧Sat w0 w' (bsl (.slice da (Frm.read l).1.data.length dc) (Frm.read l).1.data::F)):=by
 obtain ⟨ba,bn,bc,rfl,hbn,hbc⟩:=hcap
 have hln:bn=l.length:=by
  obtain ⟨_,_,_,he,hl',_⟩:=hr w h
  cases he
  rw [bys_len,Nat.mul_one]at hl';exact hl'.symm
 subst hln
 by_cases h9:l.length<9
 ·have Hf:=uQ (show Frm.read l=(Frm.zeroE,0,3) by unfold Frm.read;rw [if_pos h9])
  have c1:(l.length:Int)<9:=oQ
  clear hr hH h9 hl
  go_enter Tryz.func100,Tryz.ntmps100
  go_wp2_with (first|((with_reducible refine at_allocE ⟨?_⟩);refine wl_allocE aQ ?_;intro bE wE hE)|((with_reducible refine at_buildZ ⟨?_⟩);refine wl_buildZ ?_)|((with_reducible refine at_storeE ⟨?_⟩);first|(refine wl_storeE aQ rFz rFz fQ upD sQ ?_;intro wS hS)|(refine wl_storeE (e:=Frm.zeroE) (da:=none) (dn:=0) (dc:=0) aQ rFz rFz rfl upD sQ ?_;intro wS hS)))
  rw [Hf.out]
  refine ⟨rfl,_,res_entE3 rfl aQ rFz pkD rfl,_,rfl,none,0,rfl,Sat.osl_nil.2 (Sat.sb hS)⟩
 obtain ⟨bk,off,rfl,hcell⟩:∃ bk off,ba=some ⟨bk,off,none⟩∧True:=by
  have hx:(bys l)[0]?=some (.int .u8 (l[0]'oQ).toNat):=by
   unfold bys;rw [List.getElem?_map,List.getElem?_eq_getElem oQ];rfl
  obtain ⟨bk,off,hb,_⟩:=rdsl_cells (hr w h) hx
  exact ⟨bk,off,hb,trivial⟩
 clear hcell
 have hrd:=hr w h
 have Hsub:=uQ (show ∀ (i j:Nat),i≤j→j≤l.length→∀ w,Sat w0 w F→rdsl 1 (.slice (some ⟨bk,off+i,none⟩) (j - i) (bc - i)) (bys ((l.take j).drop i)) w from fun i j h1 h2 w hw=>rdsl_sub (hr w hw) i j (bc - i) h1 h2)
 have Hnum:=uQ (show ∀ w,Sat w0 w F→Calls Tryz.prog 144 #[.slice (some ⟨bk,off+4,none⟩) (l.length - 4) (bc - 4)] w (Rtn fun v w'=>v = .int .u32 (Frm.num ((l.drop 4).take 4):Nat)∧w=w') from fun w hw=>number_c (l.drop 4) (by rw [List.length_drop];omega) _ (l.length - 4) (bc - 4) oQ oQ (by
  have:=Hsub.out 4 l.length oQ (Nat.le_refl _) w hw
  rw [List.take_length]at this
  exact this))
 have Hnum0:=uQ (show ∀ w,Sat w0 w F→Calls Tryz.prog 144 #[.slice (some ⟨bk,off,none⟩) l.length bc] w (Rtn fun v w'=>v = .int .u32 (Frm.num (l.take 4):Nat)∧w=w') from fun w hw=>number_c l oQ _ l.length bc hbn hbc (hr w hw))
 have Hread:=uQ (show Frm.read l=if Frm.fits (l.getD 8 0) (Frm.num ((l.drop 4).take 4))=false then (Frm.zeroE,0,4)
  else if l.length<Frm.num ((l.drop 4).take 4) then (Frm.zeroE,0,3)
  else if Frm.crc ((l.take (Frm.num ((l.drop 4).take 4))).drop 4)≠Frm.num (l.take 4) then (Frm.zeroE,0,13)
  else if 41≤Frm.num ((l.drop 4).take 4) then (⟨(l.getD 8 0).toNat,(l.drop 9).take 32,(l.take (Frm.num ((l.drop 4).take 4))).drop 41⟩,Frm.num ((l.drop 4).take 4),0)
  else (⟨(l.getD 8 0).toNat,Frm.zero32,[]⟩,Frm.num ((l.drop 4).take 4),0) by unfold Frm.read;rw [if_neg h9])
 have hN:Frm.num ((l.drop 4).take 4)<4294967296:=by
  have:=Frm.num_lt ((l.drop 4).take 4)
  rw [List.length_take,List.length_drop]at this
  have h4:min 4 (l.length - 4)=4:=oQ
  rw [h4]at this
  omega
 generalize hNN:Frm.num ((l.drop 4).take 4)=N at *
 have hfits:=fun w=>fits_c (l.getD 8 0) N hN w
 have hfg:Frm.fits (l.getD 8 0) N=true→9≤N:=by
  unfold Frm.fits
  intro hh
  split at hh
  ·have:=of_decide_eq_true hh;omega
  ·split at hh
   ·have:=of_decide_eq_true hh;omega
   ·split at hh
    ·have:=of_decide_eq_true hh;omega
    ·cases hh
 have hc8:∀ w,Sat w0 w F→w.cell? ⟨bk,off+8,none⟩=some (.int .u8 (l.getD 8 0).toNat):=fun w hw=>by
  have hx:(bys l)[8]?=some (.int .u8 (l.getD 8 0).toNat):=by
   unfold bys;rw [List.getElem?_map,List.getD_eq_getElem?_getD,List.getElem?_eq_getElem oQ];rfl
  obtain ⟨bk',off',hb,hc⟩:=rdsl_cells (hr w hw) hx
  cases hb
  exact hc _ _ hx
 have Hc8:=uQ hc8;have Hr:=uQ hr;have HH:=uQ hH;have Hl:=uQ hl;have Hfg:=uQ hfg;have Hfits:=uQ hfits
 have c1:¬ (l.length:Int)<9:=oQ
 have c2:¬ bc=4:=oQ
 have c3:(4:Int)≤(l.length:Int):=oQ
 have c4:(l.length:Int)≤(bc:Int):=oQ
 have c5:(8:Int)<(l.length:Int):=oQ
 have Hbn:=uQ (show l.length≤bc∧bc≤9223372036854775807∧9≤l.length∧N<4294967296 from ⟨hbn,hbc,by omega,hN⟩)
 have hcv:IntKind.i64.wrap (N:Int)=(N:Int):=by rw [IntKind.wrap_i64];omega
 clear hrd hNN hc8 hr hH hl h9 hbn hbc hfg hfits hN
 generalize l.getD 8 0=tg at *
 have htg:=tg.toNat_lt
 have hct:IntKind.i64.wrap (tg.toNat:Int)=(tg.toNat:Int):=by rw [IntKind.wrap_i64];omega
 have htb:(tg.toNat:Int)<256:=oQ
 go_enter Tryz.func100,Tryz.ntmps100
 go_wp2_with ((with_reducible refine at_allocE ⟨?_⟩);refine wl_allocE aQ ?_;intro bE wE hE)
 refine (Hnum.out _ hE.drop).mono ?_
 rintro ee w2 ⟨v,rfl,rfl,rfl⟩
 have e8:=Hc8.out _ hE.drop
 go_wp2_with fail
 refine (Hfits.out _).mono ?_
 rintro ee w2 ⟨v,rfl,rfl,rfl⟩
 cases hft:Frm.fits tg N
 ·have Hf:=uQ (Hread.out.trans (if_pos hft))
  clear hft
  go_wp2_with (first|((with_reducible refine at_buildZ ⟨?_⟩);refine wl_buildZ ?_)|((with_reducible refine at_storeE ⟨?_⟩);first|(refine wl_storeE aQ rFz rFz fQ upD sQ ?_;intro wS hS)|(refine wl_storeE (e:=Frm.zeroE) (da:=none) (dn:=0) (dc:=0) aQ rFz rFz rfl upD sQ ?_;intro wS hS)))
  rw [Hf.out]
  refine ⟨rfl,_,res_entE3 rfl aQ rFz pkD rfl,_,rfl,none,0,rfl,Sat.osl_nil.2 (Sat.sb hS)⟩
 have Hf:=uQ (Hread.out.trans (if_neg (by rw [hft];decide)))
 have hN9:=Hfg.out hft
 clear hft
 by_cases hlN:l.length<N
 ·have Hf2:=uQ (Hf.out.trans (if_pos hlN))
  have c6:(l.length:Int)<(N:Int):=oQ
  clear hlN hN9
  go_wp2_with (first|((with_reducible refine at_buildZ ⟨?_⟩);refine wl_buildZ ?_)|((with_reducible refine at_storeE ⟨?_⟩);first|(refine wl_storeE aQ rFz rFz fQ upD sQ ?_;intro wS hS)|(refine wl_storeE (e:=Frm.zeroE) (da:=none) (dn:=0) (dc:=0) aQ rFz rFz rfl upD sQ ?_;intro wS hS)))
  rw [Hf2.out]
  refine ⟨rfl,_,res_entE3 rfl aQ rFz pkD rfl,_,rfl,none,0,rfl,Sat.osl_nil.2 (Sat.sb hS)⟩
 have Hf2:=uQ (Hf.out.trans (if_neg hlN))
 clear Hf Hread
 have c6:¬ (l.length:Int)<(N:Int):=oQ
 have c7:(4:Int)≤(N:Int):=oQ
 have c8:(N:Int)≤(bc:Int):=oQ
 have HlN:=uQ (show N≤l.length∧9≤N by omega)
 clear hlN hN9
 go_wp2_with fail
 refine (crc_c ((l.take N).drop 4) (Ro.os HH.out) (fun w hw=>Hsub.out 4 N (by have:=HlN.out;omega) HlN.out.1 w (hw.sb)) hE (by rw [List.length_drop,List.length_take];have:=Hl.out;omega)).mono ?_
 rintro ee w2 ⟨v,rfl,rfl,rfl⟩
 go_wp2_with fail
 refine (Hnum0.out _ hE.drop).mono ?_
 rintro ee w2 ⟨v,rfl,rfl,rfl⟩
 generalize Frm.crc ((l.take N).drop 4)=A at *
 generalize Frm.num (l.take 4)=B at *
 by_cases hAB:A=B
 rotate_left
 ·have Hf3:=uQ (Hf2.out.trans (if_pos hAB))
  have c9:((A:Int)==(B:Int))=false:=by rw [beq_eq_false_iff_ne];omega
  clear hAB
  go_wp2_with (first|((with_reducible refine at_buildZ ⟨?_⟩);refine wl_buildZ ?_)|((with_reducible refine at_storeE ⟨?_⟩);first|(refine wl_storeE aQ rFz rFz fQ upD sQ ?_;intro wS hS)|(refine wl_storeE (e:=Frm.zeroE) (da:=none) (dn:=0) (dc:=0) aQ rFz rFz rfl upD sQ ?_;intro wS hS)))
  rw [Hf3.out]
  refine ⟨rfl,_,res_entE3 rfl aQ rFz pkD rfl,_,rfl,none,0,rfl,Sat.osl_nil.2 (Sat.sb hS)⟩
 subst hAB
 have Hf3:=uQ (Hf2.out.trans (if_neg (fun h=>h rfl)))
 clear Hf2
 by_cases h41:41≤N
 rotate_left
 ·have Hf4:=uQ (Hf3.out.trans (if_neg h41))
  have c9:¬ (41:Int)≤(N:Int):=oQ
  clear h41
  go_wp2_with (first|((with_reducible refine at_buildTag ⟨?_⟩);refine wl_buildTag rFz ?_)|((with_reducible refine at_allocE ⟨?_⟩);refine wl_allocE aQ ?_;intro bE wE hE)|((with_reducible refine at_storeE ⟨?_⟩);first|(refine wl_storeE aQ rFz rFz fQ upD sQ ?_;intro wS hS)|(refine wl_storeE (e:=Frm.zeroE) (da:=none) (dn:=0) (dc:=0) aQ rFz rFz rfl upD sQ ?_;intro wS hS))|((with_reducible refine at_loadE ⟨?_⟩);refine wl_loadE aQ rFz pkD fQ ?_))
  rw [Hf4.out]
  simp only [List.length_nil]
  refine ⟨rfl,_,res_entE3 rfl aQ rFz pkD rfl,_,rfl,none,0,rfl,Sat.osl_nil.2 (Sat.sb hS)⟩
 have Hf4:=uQ (Hf3.out.trans (if_pos h41))
 have Hkl:=uQ (show ((l.drop 9).take 32).length=32 by rw [List.length_take,List.length_drop];have:=HlN.out;omega)
 have Hkb:=uQ (show (bys ((l.drop 9).take 32)).length=32 by rw [bys_len];exact Hkl.out)
 have Hrange:=uQ (show ∀ w,Sat w0 w F→w.rangeAt bk (off+9) (bys ((l.drop 9).take 32)) from fun w hw=>by
  intro j y hj
  have hsb:=Hsub.out 9 41 dCz (by have:=HlN.out;omega) w hw
  have e:(l.take 41).drop 9=(l.drop 9).take 32:=by rw [List.drop_take]
  rw [e]at hsb
  obtain ⟨b',o',hb,hc⟩:=rdsl_cells hsb hj
  cases hb
  exact hc _ _ hj)
 have c9:(41:Int)≤(N:Int):=oQ
 have c10:¬ bc=9:=by have:=HlN.out;have:=Hbn.out;omega
 have c11:(41:Int)≤(bc:Int):=oQ
 obtain ⟨ad,had,hsl⟩:∃ ad:Addr,(41<N→ad=⟨bk,off+41,none⟩)∧∀ w,(Instr.sliceAt 27 (.slice (some ⟨bk,off,none⟩) l.length bc) (some (.int .i64 41)) (some (.int .i64 N)) none).run Tryz.prog w = .ok (.slice (some ad) (N - 41) (bc - 41)) w:=by
  by_cases hce:bc=41
  ·refine ⟨⟨bk,off,none⟩,fun hh=>by have:=HlN.out;have:=Hbn.out;omega,fun w=>?_⟩
   have c12:(N:Int)≤41:=oQ
   have c13:¬ (41:Int)<(N:Int):=oQ
   go_simp
  ·refine ⟨⟨bk,off+41,none⟩,fun _=>rfl,fun w=>?_⟩
   go_simp
 have Had:=uQ had
 have Hdat:=uQ (show ∀ w,Sat w0 w F→rdsl 1 (.slice (some ad) (N - 41) (bc - 41)) (bys ((l.take N).drop 41)) w from fun w hw=>by
  by_cases h2:41<N
  ·rw [Had.out h2];exact Hsub.out 41 N oQ HlN.out.1 w hw
  ·have:(l.take N).drop 41=[]:=List.drop_of_length_le (by rw [List.length_take];omega)
   rw [this,show N - 41=0 by omega]
   exact ⟨_,0,_,rfl,rfl,by simp [bys]⟩)
 clear h41 had
 have hat:=fun w=>run_arrKey ⟨bk,off+9,none⟩ (bc - 9) w
 go_wp2_with (first
  |((with_reducible refine at_buildTag ⟨?_⟩);refine wl_buildTag rFz ?_)|((with_reducible refine at_allocE ⟨?_⟩);refine wl_allocE aQ ?_;intro bE wE hE)|((with_reducible refine at_storeE ⟨?_⟩);first|(refine wl_storeE aQ rFz rFz fQ upD sQ ?_;intro wS hS)|(refine wl_storeE (e:=Frm.zeroE) (da:=none) (dn:=0) (dc:=0) aQ rFz rFz rfl upD sQ ?_;intro wS hS))
  |((with_reducible refine at_load ⟨?_⟩);refine wpList_load_mid rFz 30 _ rFz bk (off+9) rFz (bys ((l.drop 9).take 32)) _ (Hrange.out _ (Sat.sb aQ)) Tryz.underlying30 rfl (by rw [Hkb.out];kernel_rfl) ?_)
  |((with_reducible refine at_store ⟨?_⟩);refine wl_storeK (key:=(l.drop 9).take 32) aQ rFz rFz rfl Hkl.out upD ?_;intro wK hK)
  |((with_reducible refine at_slice2 ⟨?_⟩);refine wl_slice2 rFz rFz rFz hsl ?_))
 refine (clone_c hK (Hdat.out _ (hK.sb)) (by rw [List.length_drop,List.length_take];have:=Hl.out;omega)).mono ?_
 rintro ee w3 ⟨v,rfl,hS3,ca,cn,cc,rfl⟩
 have hcn:cn=((l.take N).drop 41).length:=by
  obtain ⟨_,_,_,he,hl',_⟩:=Sat.rd hS3
  cases he
  rw [bys_len,Nat.mul_one]at hl';exact hl'.symm
 subst hcn
 have Hkl2:=Hkl.out
 generalize (l.drop 9).take 32=key at *
 generalize (l.take N).drop 41=data at *
 go_wp2_with (first
  |((with_reducible refine at_store ⟨?_⟩);refine wl_storeD (e:=⟨(tg.toNat:Int),key,[]⟩) (data:=data) aQ rFz rFz Hkl2 upD ?_;intro wD hD)
  |((with_reducible refine at_loadE ⟨?_⟩);refine wl_loadE aQ rFz pkD fQ ?_)|((with_reducible refine at_storeE ⟨?_⟩);first|(refine wl_storeE aQ rFz rFz fQ upD sQ ?_;intro wS hS)|(refine wl_storeE (e:=Frm.zeroE) (da:=none) (dn:=0) (dc:=0) aQ rFz rFz rfl upD sQ ?_;intro wS hS)))
 rw [Hf4.out]
 simp only
 refine ⟨rfl,_,res_entE3 rfl aQ rFz pkD Hkl2,_,rfl,ca,cc,rfl,Sat.sb hS⟩
end
end Go.Proofs.YtlimfgdbfadohaaGreatDoor
namespace Go.Frm
structure Fnd where
 e:Ent
 at_:Nat
 size:Nat
def scanL:Nat→Bs→Nat→List Fnd×Nat×Int
 |0,_,at_=>([],at_,0)
 |k+1,b,at_=>
  if b=[] then ([],at_,0)
  else if (read b).2.2≠0 then ([],at_,(read b).2.2)
  else (⟨(read b).1,at_,(read b).2.1⟩::(scanL k (b.drop (read b).2.1) (at_+(read b).2.1)).1,(scanL k (b.drop (read b).2.1) (at_+(read b).2.1)).2)
def magicB:Bs:=[72,79,65,82,68,83,69,71]
def scan (b:Bs):List Fnd×Nat×Int:=if b.take 8=magicB then scanL b.length (b.drop 8) 8 else ([],0,4)
end Go.Frm
namespace Go.Proofs.YtlimfgdbfadohaaGreatDoor
open Go Go.Sl Go.Med Go.MapKept Go.RowKit
section
variable {w0 w:World}{F R:List HProp}{v bv dv x lv av:Value}
theorem rdsl_text {l:Bs} (h:rdsl 1 v (bys l) w):(convert 27 9 v).run Tryz.prog w = .ok (.string ⟨l.toArray⟩) w:=by
 obtain ⟨a,n,c,rfl,hl,hx⟩:=h
 rw [bys_len,Nat.mul_one]at hl
 subst hl
 cases a with
 |none=>
  obtain rfl:l=[]:=by
   cases l with
   |nil=>rfl
   |cons d l=>obtain ⟨b,hb,_⟩:=hx 0 _ rfl;cases hb
  exact Lib.run_convert_nil_bytes (P:=Tryz.prog) w _ _ 5 c Tryz.underlying27 Tryz.underlying5 Tryz.underlying9
 |some ad=>
  refine run_convert_bytes_back (P:=Tryz.prog) w _ _ 5 ad c l Tryz.underlying27 Tryz.underlying5 Tryz.underlying9 (fun j hj=>?_)
  have hy:(bys l)[j]?=some (.int .u8 (l[j]'hj).toNat):=by unfold bys;rw [List.getElem?_map,List.getElem?_eq_getElem hj];rfl
  obtain ⟨b,hb,hc⟩:=hx _ _ hy
  cases hb
  simpa using hc
theorem bequal_c (la lb:Bs) (ha:rdsl 1 av (bys la) w) (hb:rdsl 1 bv (bys lb) w) :
  Calls Tryz.prog 55 #[av,bv] w (Rtn fun v w'=>v = .bool (decide (la=lb))∧w=w'):=by
 have h1:=rdsl_text ha
 have h2:=rdsl_text hb
 have He:=uQ (show ((la.toArray.toList:List UInt8)==lb.toArray.toList)=decide (la=lb) by
  rw [Bool.eq_iff_iff,beq_iff_eq,decide_eq_true_eq])
 clear ha hb
 go_enter Tryz.func55,Tryz.ntmps55
 go_wp2
 go_ret
 rw [← He.out]
 exact ⟨_,rfl,rfl,rfl⟩
theorem hasPrefix_c (l lp:Bs) (a:Option Addr) (n c:Nat) (hn:n≤c) (hc:c≤9223372036854775807) (ha:rdsl 1 (.slice a n c) (bys l) w) (pa:Option Addr) (pn pc:Nat) (hp:rdsl 1 (.slice pa pn pc) (bys lp) w) :
  Calls Tryz.prog 163 #[.slice a n c,.slice pa pn pc] w (Rtn fun v w'=>v = .bool (decide (l.take lp.length=lp))∧w=w'):=by
 have hln:n=l.length:=by
  obtain ⟨_,_,_,he,hl',_⟩:=ha
  cases he
  rw [bys_len,Nat.mul_one]at hl';exact hl'.symm
 have hpn:pn=lp.length:=by
  obtain ⟨_,_,_,he,hl',_⟩:=hp
  cases he
  rw [bys_len,Nat.mul_one]at hl';exact hl'.symm
 subst hln hpn
 by_cases hle:lp.length≤l.length
 ·have h4:=rdsl_cut4 (k:=lp.length) ha
  rw [show min l.length lp.length=lp.length by omega]at h4
  have hq:=bequal_c _ _ h4 hp
  have c1:(lp.length:Int)≤(l.length:Int):=oQ
  have c2:(lp.length:Int)≤(c:Int):=oQ
  have c3:lp.length≤l.length:=hle
  clear h4 ha hp
  go_enter Tryz.func163,Tryz.ntmps163
  go_wp2_with (go_at_call 55;refine hq.mono ?_;rintro e w1 ⟨v,rfl,rfl,rfl⟩)
  go_ret
  exact ⟨_,rfl,rfl,rfl⟩
 ·have c1:¬ lp.length≤l.length:=hle
  have c2:decide ((lp.length:Int)≤(l.length:Int))=false:=decide_eq_false oQ
  have He:=uQ (show decide (l.take lp.length=lp)=false by
   apply decide_eq_false
   intro hh
   have:=congrArg List.length hh
   rw [List.length_take]at this
   omega)
  clear ha hp
  go_enter Tryz.func163,Tryz.ntmps163
  go_wp2
  go_ret
  rw [He.out]
  exact ⟨_,rfl,rfl,rfl⟩
end
end Go.Proofs.YtlimfgdbfadohaaGreatDoor
namespace Go.Frm
theorem read_ok {b:Bs} (h:(read b).2.2=0):9≤(read b).2.1∧(read b).2.1≤b.length∧(read b).1.key.length=32:=by
 unfold read at *
 dsimp only at *
 split at h
 ·simp at h
 rename_i h9
 rw [if_neg h9]
 split at h
 ·simp at h
 rename_i hf
 rw [if_neg hf]
 split at h
 ·simp at h
 rename_i hl
 rw [if_neg hl]
 split at h
 ·simp at h
 rename_i hc
 rw [if_neg hc]
 have hfit:fits (b.getD 8 0) (num ((b.drop 4).take 4))=true:=by
  cases hh:fits (b.getD 8 0) (num ((b.drop 4).take 4)) with
  |true=>rfl
  |false=>exact absurd hh hf
 have h9':9≤num ((b.drop 4).take 4):=by
  unfold fits at hfit
  split at hfit
  ·have:=of_decide_eq_true hfit;omega
  ·split at hfit
   ·have:=of_decide_eq_true hfit;omega
   ·split at hfit
    ·have:=of_decide_eq_true hfit;omega
    ·cases hfit
 split
 ·rename_i h41
  refine ⟨h9',Nat.not_lt.1 hl,?_⟩
  simp only [List.length_take,List.length_drop]
  omega
 ·exact ⟨h9',Nat.not_lt.1 hl,rfl⟩
theorem read_key (b:Bs):(read b).1.key.length=32:=by
 unfold read
 dsimp only
 split
 ·rfl
 split
 ·rfl
 split
 ·rfl
 split
 ·rfl
 rename_i h9 hf hl hc
 split
 ·rename_i h41
  simp only [List.length_take,List.length_drop]
  omega
 ·rfl
end Go.Frm
namespace Go.Proofs.YtlimfgdbfadohaaGreatDoor
open Go Go.Sl Go.Med Go.MapKept Go.RowKit
def fndL (f:Frm.Fnd) (dv:Value):List Value:=entL f.e dv++[.int .i64 f.at_,.int .i64 f.size]
def fndA (f:Frm.Fnd) (dv:Value):Array Value:=(fndL f dv).toArray
def fndsL (fs:List (Frm.Fnd×Value)):List Value:=fs.flatMap fun p=>fndL p.1 p.2
def dataF (fs:List (Frm.Fnd×Value)):HProp:=stars (fs.map fun p=>bsl p.2 p.1.e.data)
theorem fndL_len (f:Frm.Fnd) (dv:Value) (hk:f.e.key.length=32):(fndL f dv).length=36:=by unfold fndL;rw [List.length_append,entL_len _ _ hk];rfl
theorem fndA_size (f:Frm.Fnd) (dv:Value) (hk:f.e.key.length=32):(fndA f dv).size=36:=by unfold fndA;rw [List.size_toArray,fndL_len _ _ hk]
theorem fndsL_len {fs:List (Frm.Fnd×Value)} (hk:∀ p∈fs,p.1.e.key.length=32):(fndsL fs).length=36 * fs.length:=by
 unfold fndsL
 induction fs with
 |nil=>rfl
 |cons p fs ih=>
  rw [List.flatMap_cons,List.length_append,ih (fun q hq=>hk q (.tail _ hq)),fndL_len _ _ (hk p (.head _)),List.length_cons];omega
theorem fndsL_app (es fs:List (Frm.Fnd×Value)):fndsL (es++fs)=fndsL es++fndsL fs:=by unfold fndsL;rw [List.flatMap_append]
theorem dataF_snoc (es:List (Frm.Fnd×Value)) (x:Frm.Fnd) (dv:Value):dataF (es++[(x,dv)])=star (bsl dv x.e.data) (dataF es):=by
 unfold dataF
 rw [List.map_append,stars_append,star_comm]
 show star (stars [bsl dv x.e.data]) _=_
 rw [stars_one]
theorem plFnd:placesB Tryz.prog 223=some [(0,34),(34,1),(35,1)]:=by kernel_rfl
def zeroF:Frm.Fnd:=⟨Frm.zeroE,0,0⟩
theorem zFnd:zeroB Tryz.prog 223=some (.agg (fndA zeroF (.slice none 0 0))):=by kernel_rfl
theorem puts3f (cs:Array Value) (hs:cs.size=36) (el:List Value) (u v:Value) (hk:el.length=34):(putsAt (putsAt (putsAt cs 0 el) 34 [u]) 35 [v]).toList=el++[u,v]:=by
 have hcl:cs.toList.length=36:=by simpa using hs
 have e1:(putsAt cs 0 el).toList=el++cs.toList.drop 34:=by
  rw [putsAt_list _ _ _ oQ,List.take_zero,List.nil_append,Nat.zero_add,hk]
 have e2:(putsAt (putsAt cs 0 el) 34 [u]).toList=el++[u]++cs.toList.drop 35:=by
  rw [putsAt_list _ _ _ (by rw [putsAt_size];simp;omega),e1,List.take_append_of_le_length oQ,List.take_of_length_le oQ,List.length_singleton,List.drop_append,hk,List.drop_of_length_le (l:=el) oQ,List.nil_append,List.drop_drop]
 have h3:(el++[u]).length=35:=by simp [hk]
 rw [putsAt_list _ _ _ (by rw [putsAt_size,putsAt_size];simp;omega),e2,List.take_append_of_le_length oQ,List.take_of_length_le oQ,List.length_singleton,List.drop_of_length_le (by rw [List.length_append,h3,List.length_drop];omega)]
 simp
set_option maxRecDepth 20000 in
theorem run_buildFnd (e:Frm.Ent) (hk:e.key.length=32) (da:Option Addr) (dn dc:Nat) (at_ n:Nat) (w:World) :
  (Instr.build 223 #[(0,.agg (entA e (.slice da dn dc))),(1,.int .i64 at_),(2,.int .i64 n)]).run Tryz.prog w = .ok (.agg (fndA ⟨e,at_,n⟩ (.slice da dn dc))) w:=by
 have hz:(fndA zeroF (.slice none 0 0)).size=36:=fndA_size _ _ rfl
 have he:(entA e (.slice da dn dc)).size=34:=entA_size _ _ hk
 have h:=run_build (P:=Tryz.prog) [(0,.agg (entA e (.slice da dn dc))),(1,.int .i64 at_),(2,.int .i64 n)] plFnd zFnd (by
  intro p hp
  simp only [List.mem_cons,List.not_mem_nil,or_false]at hp
  have hzz:(Value.agg (fndA zeroF (.slice none 0 0))).cells.size=36:=hz
  rw [hzz]
  rcases hp with rfl|rfl|rfl
  ·refine ⟨0,?_,?_⟩
   ·show some (0,34)=some (0,(entA e (.slice da dn dc)).size);rw [he]
   ·show 0+(entA e (.slice da dn dc)).size≤36;omega
  ·exact ⟨34,rfl,by show 34+1≤36;omega⟩
  ·exact ⟨35,rfl,by show 35+1≤36;omega⟩) w
 refine h.trans ?_
 congr 2
 apply putsAt_eq
 exact puts3f _ hz _ _ _ (show (entA e (.slice da dn dc)).toList.length=34 by rw [Array.length_toList,he])
section
variable {w0 w:World}{L L' R:List HProp}{b:Nat}{ops:Array Oper}{rest:List Oper}{a:Act}{Q:Exit→Act→World→Prop}
variable {dst:Option Tmp}{t T ty:TypeId}{pos:String}{after:Array Edge}{x y z:Operand}{cs:Array Value}{v v1 v2 v3:Value}{i1 i2 i3:Nat}{P:Program}
theorem wl_build3 (h1:a.eval x=v1) (h2:a.eval y=v2) (h3:a.eval z=v3) (hr:∀ w,(Instr.build ty #[(i1,v1),(i2,v2),(i3,v3)]).run P w = .ok v w) (h:wpList P ops Q rest (a.put dst v) w) :
  wpList P ops Q (⟨dst,.build ty #[(i1,x),(i2,y),(i3,z)],t,pos,after,none⟩::rest) a w:=
 wpList_plain rfl fun _ hK=>by
  unfold Oper.wp execOp
  simp only [List.map_toArray,List.map_cons,List.map_nil,h1,h2,h3,Sem.run_bind,hr,Result.andThen_ok,Sem.run_pure]
  exact hK _ _ h
theorem at_build3 (h:Stop (wpList P ops Q (⟨dst,.build ty #[(i1,x),(i2,y),(i3,z)],t,pos,after,none⟩::rest) a w)):wpList P ops Q (⟨dst,.build ty #[(i1,x),(i2,y),(i3,z)],t,pos,after,none⟩::rest) a w:=h.out
theorem fndA_ones (f:Frm.Fnd) (a:Option Addr) (n c:Nat):(fndA f (.slice a n c)).toList.all (·.oneCell')=true:=by
 unfold fndA fndL
 rw [List.toList_toArray,List.all_append]
 have h1:(entL f.e (.slice a n c)).all (·.oneCell')=true:=by
  have:=entA_one f.e a n c
  unfold entA at this
  rwa [List.toList_toArray]at this
 rw [h1];rfl
end
end Go.Proofs.YtlimfgdbfadohaaGreatDoor
namespace Go.Rep
open Go.Frm (Bs Fnd)
open Go.Seg (Plc)
open Go.Tab (put)
abbrev Row:=Int×Fnd
def rkey (r:Row):Bs:=r.2.e.key
def rtag (r:Row):Int:=r.2.e.tag
def rplc (r:Row):Plc:=⟨r.1,r.2.at_,r.2.size⟩
structure Abt where
 tag:Int
 place:Plc
 first:Int
def newest:List Row→Bs→Option Row
 |[],_=>none
 |r::l,k=>match newest l k with
  |some x=>some x
  |none=>if rtag r≠2∧rkey r=k then some r else none
def firstPut:List Row→Bs→Option Row
 |[],_=>none
 |r::l,k=>if rtag r=0∧rkey r=k then some r else firstPut l k
def first (l:List Row) (k:Bs):Int:=match firstPut l k with
 |some r=>r.1
 |none=> -1
def ledger (l:List Row) (k:Bs):Option Abt:=(newest l k).map fun r=>⟨rtag r,rplc r,first l k⟩
def first0 (m:Bs→Option Abt) (r:Row):Int:=match m (rkey r) with
 |some a=>a.first
 |none=> -1
def first1 (m:Bs→Option Abt) (r:Row):Int:=if rtag r=0∧first0 m r<0 then r.1 else first0 m r
def takeOne (m:Bs→Option Abt) (r:Row):Bs→Option Abt:=
 if rtag r=2 then m else put m (rkey r) ⟨rtag r,rplc r,first1 m r⟩
theorem newest_snoc (l:List Row) (r:Row) (k:Bs):newest (l++[r]) k=if rtag r≠2∧rkey r=k then some r else newest l k:=by
 induction l with
 |nil=>simp only [List.nil_append,newest]
 |cons x l ih=>
  simp only [List.cons_append,newest,ih]
  split
  ·rename_i h;split at h
   ·rename_i h2;rw [if_pos h2];cases h;rfl
   ·rename_i h2;rw [if_neg h2,h]
  ·rename_i h;split at h
   ·cases h
   ·rename_i h2;rw [if_neg h2,h]
theorem firstPut_snoc (l:List Row) (r:Row) (k:Bs):firstPut (l++[r]) k=match firstPut l k with
  |some x=>some x
  |none=>if rtag r=0∧rkey r=k then some r else none:=by
 induction l with
 |nil=>simp only [List.nil_append,firstPut]
 |cons x l ih=>
  simp only [List.cons_append,firstPut,ih]
  split
  ·rename_i h;simp only
  ·rfl
theorem newest_none {l:List Row}{k:Bs} (h:newest l k=none):firstPut l k=none:=by
 induction l with
 |nil=>rfl
 |cons x l ih=>
  simp only [newest]at h
  split at h
  ·cases h
  ·rename_i h1
   split at h
   ·cases h
   ·rename_i h2
    simp only [firstPut]
    rw [if_neg fun h3=>h2 ⟨by rw [h3.1];decide,h3.2⟩]
    exact ih h1
theorem firstPut_mem {l:List Row}{k:Bs}{r:Row} (h:firstPut l k=some r):r∈l∧rtag r=0∧rkey r=k:=by
 induction l with
 |nil=>cases h
 |cons x l ih=>
  simp only [firstPut]at h
  split at h
  ·cases h;exact ⟨.head _,by assumption⟩
  ·exact ⟨.tail _ (ih h).1,(ih h).2⟩
theorem ledger_snoc (l:List Row) (r:Row) (h0:∀ x∈l,0≤x.1):ledger (l++[r])=takeOne (ledger l) r:=by
 funext k
 unfold takeOne
 by_cases h2:rtag r=2
 ·rw [if_pos h2]
  unfold ledger first
  rw [newest_snoc,if_neg (fun h=>h.1 h2),firstPut_snoc]
  cases firstPut l k with
  |some x=>rfl
  |none=>simp only;rw [if_neg (fun h=>by rw [h2]at h;exact absurd h.1 dCz)]
 ·rw [if_neg h2]
  unfold put
  by_cases hk:k=rkey r
  ·subst hk
   rw [if_pos rfl]
   have e1:∀ k,ledger l k=(newest l k).map fun r=>⟨rtag r,rplc r,first l k⟩:=fun _=>rfl
   have e2:ledger (l++[r]) (rkey r)=some ⟨rtag r,rplc r,first (l++[r]) (rkey r)⟩:=by
    unfold ledger
    rw [newest_snoc,if_pos ⟨h2,rfl⟩,Option.map_some]
   rw [e2]
   congr 2
   unfold first1 first0
   rw [e1]
   unfold first
   rw [firstPut_snoc]
   cases hn:newest l (rkey r) with
   |none=>
    rw [newest_none hn]
    simp only [Option.map_none]
    by_cases ht:rtag r=0
    ·rw [if_pos ⟨ht,trivial⟩,if_pos ⟨ht,by decide⟩]
    ·rw [if_neg (fun h=>ht h.1),if_neg (fun h=>ht h.1)]
   |some x=>
    simp only [Option.map_some]
    cases hf:firstPut l (rkey r) with
    |some y=>
     simp only
     rw [if_neg (fun h=>by have:=h0 y (firstPut_mem hf).1;omega)]
    |none=>
     simp only
     by_cases ht:rtag r=0
     ·rw [if_pos ⟨ht,trivial⟩,if_pos ⟨ht,by decide⟩]
     ·rw [if_neg (fun h=>ht h.1),if_neg (fun h=>ht h.1)]
  ·rw [if_neg hk]
   unfold ledger first
   rw [newest_snoc,if_neg (fun h=>hk h.2.symm),firstPut_snoc]
   cases firstPut l k with
   |some x=>rfl
   |none=>simp only;rw [if_neg (fun h=>hk h.2.symm)]
def counts (a:Abt):Bool:=decide (a.tag=0) || (decide (0≤a.first) && decide (a.first<a.place.seg))
def isNew (l:List Row) (i:Nat):Bool:=match l[i]? with
 |none=>false
 |some r=>decide (rtag r<2) && (l.drop (i+1)).all fun x => !(decide (rtag x<2) && decide (rkey x=rkey r))
def cnt (l:List Row) (i:Nat):Bool:=match l[i]? with
 |none=>false
 |some r => !decide (rtag r=2) && isNew l i && (decide (rtag r=0) || (l.take i).any fun x=>decide (rtag x=0) && decide (rkey x=rkey r) && decide (x.1<r.1))
structure Rows (l:List Row):Prop where
 tag:∀ r∈l,rtag r=0∨rtag r=1∨rtag r=2
 seg:∀ r∈l,0≤r.1
 rise:l.Pairwise fun a b=>a.1≤b.1
end Go.Rep
namespace Go.Proofs.YtlimfgdbfadohaaGreatDoor
open Go Go.Sl Go.Med Go.MapKept Go.RowKit
def putL (xs:List Value) (i:Nat) (vs:List Value):List Value:=xs.take i++(vs++xs.drop (i+vs.length))
theorem putL_app (A B vs:List Value) (i:Nat):putL (A++B) (A.length+i) vs=A++putL B i vs:=by
 unfold putL
 rw [List.take_length_add_append,Nat.add_assoc,List.drop_length_add_append,List.append_assoc]
theorem putL_len {xs vs:List Value}{i:Nat} (h:i+vs.length≤xs.length):(putL xs i vs).length=xs.length:=by
 unfold putL
 simp only [List.length_append,List.length_take,List.length_drop];omega
section
variable {P:Program}{w0 w:World}{L L':List HProp}{b o:Nat}{ops:Array Oper}{rest:List Oper}{a:Act}{Q:Exit→Act→World→Prop}{dst:Option Tmp}{t ty T sz n c:Nat}{pos:String}{after:Array Edge}{x y:Operand}{v:Value}{xs vs:List Value}{K:Act→World→Prop}{E:Prop}
theorem putsAt_take {cs:Array Value}{i m:Nat} (hx:cs.toList.take m=xs) (hm:m≤cs.size) (hi:i+vs.length≤m):(putsAt cs i vs).toList.take m=putL xs i vs:=by
 subst hx
 rw [putsAt_list _ _ _ oQ]
 have hl:(cs.toList.take i++vs).length=i+vs.length:=by rw [List.length_append,List.length_take,Array.length_toList];omega
 unfold putL
 rw [List.take_append,hl,List.take_of_length_le oQ,List.take_take,Nat.min_eq_left oQ,List.drop_take,List.append_assoc]
theorem eff_storeSN (i:Nat) (hs:Sat w0 w L) (hx:a.eval x = .pointer (some ⟨b,i,none⟩)) (hy:a.eval y=v) (hv:v.cells.toList=vs) (u:Upd (osl T sz (.slice (some ⟨b,0,none⟩) n c) xs) (osl T sz (.slice (some ⟨b,0,none⟩) n c) (putL xs i vs)) L L')
  (hi:i+vs.length≤xs.length) (hty:(P.info? ty).map (·.size)=some vs.length) (h1:vs.all (·.oneCell')=true)
  (hK:∀ w',Sat w0 w' L'→K (a.put dst undef) w') :
  if Region.wanted ⟨dst,.store ty x y,t,pos,after,none⟩ (yielded ops a.tmps)=true then Oper.wp P ⟨dst,.store ty x y,t,pos,after,none⟩ a w K Q else E:=by
 have hvs:v.cells.size=vs.length:=by rw [← hv,Array.length_toList]
 obtain ⟨R',h2,h3⟩:=u
 have h:=hs.perm h2
 rcases Sat.osl_cases h with ⟨he,_⟩|⟨g',n',cap',cs,he,k1,k2,k3,k4,k5,k6⟩
 ·cases he
 ·cases he
  have hlen:xs.length≤cs.size:=by rw [← k5,List.length_take,Array.length_toList];omega
  have hm:n * sz≤cs.size:=Nat.le_trans (Nat.mul_le_mul_right _ k2) k3
  refine eff_store k6 hx hy (cs':=putsAt cs i vs) (by rw [hv]) upd0 (by rw [hvs];omega) (by rw [hvs];exact hty) (by rw [hv];exact h1) fun w' hS=>hK w' (Sat.perm ?_ h3.symm)
  refine Sat.osl_of_pt hS (by rw [putL_len hi];exact k1) k2 (by rw [putsAt_size];exact k3) k4 ?_
  exact putsAt_take k5 hm (by rw [← k1];exact hi)
end
section
variable {α:Type}{f:α→List Value}{k:Nat}
theorem rows_len:∀ {l:List α},(∀ x∈l,(f x).length=k)→(l.flatMap f).length=k * l.length
 |[],_=>rfl
 |x::l,h=>by rw [List.flatMap_cons,List.length_append,h x (.head _),rows_len fun y hy=>h y (.tail _ hy),List.length_cons,Nat.mul_succ];omega
theorem rows_at:∀ {l:List α}{i:Nat}{x:α}{j:Nat}{v:Value},(∀ x∈l,(f x).length=k)→l[i]?=some x→(f x)[j]?=some v→(l.flatMap f)[i * k+j]?=some v
 |[],_,_,_,_,_,h,_=>by cases h
 |y::l,0,x,j,v,hk,h,hj=>by
  obtain rfl:y=x:=by simpa using h
  rw [List.flatMap_cons,Nat.zero_mul,Nat.zero_add,List.getElem?_append_left (List.getElem?_eq_some_iff.1 hj).1];exact hj
 |y::l,i+1,x,j,v,hk,h,hj=>by
  have h0:=hk y (.head _)
  rw [List.flatMap_cons,Nat.succ_mul,List.getElem?_append_right oQ,h0,show i * k+k+j - k=i * k+j by omega]
  exact rows_at (fun z hz=>hk z (.tail _ hz)) (by simpa using h) hj
theorem rows_set:∀ {l:List α}{i:Nat}{x:α},(∀ x∈l,(f x).length=k)→(f x).length=k→i<l.length→(l.set i x).flatMap f=putL (l.flatMap f) (i * k) (f x)
 |[],_,_,_,_,h=>by simp at h
 |y::l,0,x,hk,hx,h=>by
  have h0:=hk y (.head _)
  rw [List.set_cons_zero,List.flatMap_cons,List.flatMap_cons]
  unfold putL
  rw [Nat.zero_mul,List.take_zero,List.nil_append,Nat.zero_add,hx,← h0,List.drop_left]
 |y::l,i+1,x,hk,hx,h=>by
  have h0:=hk y (.head _)
  rw [List.set_cons_succ,List.flatMap_cons,List.flatMap_cons,rows_set (fun z hz=>hk z (.tail _ hz)) hx (by simpa using h),Nat.succ_mul,Nat.add_comm (i * k) k,← h0,putL_app]
theorem rows_rep (n:Nat) (x:α):(List.replicate n x).flatMap f=(List.replicate n (f x)).flatten:=by
 induction n with
 |zero=>rfl
 |succ n ih=>rw [List.replicate_succ,List.flatMap_cons,ih,List.replicate_succ,List.flatten_cons]
end
section
variable {w0 w:World}{F R:List HProp}{α:Type}{f:α→List Value}{k:Nat}{T:TypeId}{v:Value}
theorem osl_row {l:List α}{i:Nat}{x:α} (hk:∀ x∈l,(f x).length=k) (h:rdsl k v (l.flatMap f) w) (hi:l[i]?=some x) (h0:0<k) :
  ∃ bk off c,v = .slice (some ⟨bk,off,none⟩) l.length c∧∀ j y,(f x)[j]?=some y→w.cell? ⟨bk,off+i * k+j,none⟩=some y:=by
 obtain ⟨a,n,c,rfl,hl,hx⟩:=id h
 rw [rows_len hk]at hl
 have hfx:=hk x (List.mem_of_getElem? hi)
 obtain rfl:n=l.length:=by
  rw [Nat.mul_comm]at hl
  exact (Nat.eq_of_mul_eq_mul_right h0 hl).symm
 obtain ⟨y0,hy0⟩:∃ y,(f x)[0]?=some y:=⟨_,List.getElem?_eq_getElem oQ⟩
 have h1:=rows_at hk hi hy0
 obtain ⟨bk,off,rfl,hc⟩:=rdsl_cells h h1
 exact ⟨bk,off,c,rfl,fun j y hj=>by rw [Nat.add_assoc];exact hc _ _ (rows_at hk hi hj)⟩
theorem osl_rows {l:List α} (hk:∀ x∈l,(f x).length=k) (h:rdsl k v (l.flatMap f) w) (h0:0<k):∃ a c,v = .slice a l.length c:=by
 obtain ⟨a,n,c,rfl,hl,hx⟩:=id h
 rw [rows_len hk,Nat.mul_comm]at hl
 exact ⟨a,c,by rw [Nat.eq_of_mul_eq_mul_right h0 hl]⟩
end
theorem and_mask (x j:Nat) (hx:x<9223372036854775808) (hj:j<63):bits .and .i64 (x:Int) ((2^j - 1:Nat):Int)=((x%2^j:Nat):Int):=by
 have h2:2^j≤2^62:=Nat.pow_le_pow_right dCz oQ
 have h3:(2:Nat)^62=4611686018427387904:=by decide
 have h4:0<2^j:=Nat.two_pow_pos j
 have hm:(BitVec.ofInt 64 ((2^j - 1:Nat):Int)).toNat=2^j - 1:=by
  rw [BitVec.toNat_ofInt]
  have:((2^64:Nat):Int)=18446744073709551616:=by decide
  rw [this]
  omega
 have hn:(BitVec.ofInt 64 (x:Int)).toNat=x:=by
  rw [BitVec.toNat_ofInt]
  have:((2^64:Nat):Int)=18446744073709551616:=by decide
  rw [this]
  omega
 show IntKind.i64.wrap ((BitVec.ofInt 64 (x:Int) &&& BitVec.ofInt 64 ((2^j - 1:Nat):Int)).toNat:Nat)=_
 rw [BitVec.toNat_and,hm,hn,Nat.and_two_pow_sub_one_eq_mod,IntKind.wrap_i64]
 have:=Nat.mod_lt x h4
 omega
theorem or_num32 (l:Bs) (c:UInt8) (k:Nat) (hl:l.length=k) (hk:k<4):bits .or .u32 ((Frm.num l:Nat):Int) ((c.toNat:Int) * ((256^k:Nat):Int))=((Frm.num (l++[c]):Nat):Int):=by
 subst hl
 have h1:=Frm.num_lt l
 have h2:=c.toNat_lt
 have h3:256^l.length≤256^3:=Nat.pow_le_pow_right dCz oQ
 have h4:c.toNat * 256^l.length≤255 * 256^3:=Nat.mul_le_mul oQ h3
 have h5:(256:Nat)^3=16777216:=by decide
 have e:(c.toNat:Int) * ((256^l.length:Nat):Int)=((c.toNat * 256^l.length:Nat):Int):=by rw [Int.natCast_mul]
 rw [e,u32_or_nat _ _ oQ oQ,Frm.num_snoc]
 congr 1
 have hp:(256:Nat)^l.length=2^(8 * l.length):=by rw [Nat.pow_mul]
 rw [hp]at h1 ⊢
 have:=Nat.two_pow_add_eq_or_of_lt h1 c.toNat
 rw [Nat.or_comm,Nat.mul_comm c.toNat,← this,Nat.add_comm]
section
variable {w0 w:World}{F R:List HProp}
set_option maxRecDepth 20000 in
theorem home_c (k:Bs) (hk:k.length=32) (j:Nat) (hj:j<40) (h:Sat w0 w F) :
  Calls Tryz.prog 89 #[.agg (bys k).toArray,.int .i64 (2^j:Nat)] w (Rtn fun v w'=>v = .int .i64 (Tab.home k (2^j):Nat)∧Sat w0 w' F):=by
 obtain ⟨c0,c1,c2,c3,t,rfl⟩:∃ c0 c1 c2 c3 t,k=c0::c1::c2::c3::t:=by
  match k,hk with
  |c0::c1::c2::c3::t,_=>exact ⟨c0,c1,c2,c3,t,rfl⟩
 have Hh:=uQ (show Tab.home (c0::c1::c2::c3::t) (2^j)=Frm.num [c0,c1,c2,c3]%2^j from rfl)
 have hB:=h.alloc (.cells (bys (c0::c1::c2::c3::t)).toArray 30)
 have e0:(w.alloc (.cells (bys (c0::c1::c2::c3::t)).toArray 30)).cell? ⟨w.heap.size,0,none⟩=some (.int .u8 c0.toNat):=hB.cellAt 0 _ rfl
 have e1:(w.alloc (.cells (bys (c0::c1::c2::c3::t)).toArray 30)).cell? ⟨w.heap.size,1,none⟩=some (.int .u8 c1.toNat):=hB.cellAt 1 _ rfl
 have e2:(w.alloc (.cells (bys (c0::c1::c2::c3::t)).toArray 30)).cell? ⟨w.heap.size,2,none⟩=some (.int .u8 c2.toNat):=hB.cellAt 2 _ rfl
 have e3:(w.alloc (.cells (bys (c0::c1::c2::c3::t)).toArray 30)).cell? ⟨w.heap.size,3,none⟩=some (.int .u8 c3.toNat):=hB.cellAt 3 _ rfl
 have b0:=c0.toNat_lt;have b1:=c1.toNat_lt;have b2:=c2.toNat_lt;have b3:=c3.toNat_lt
 have q1:bits .or .u32 (c0.toNat:Int) ((c1.toNat:Int) * 256)=((Frm.num [c0,c1]:Nat):Int):=by
  have:=or_num32 [c0] c1 1 rfl dCz
  simpa [Frm.num] using this
 have q2:bits .or .u32 ((Frm.num [c0,c1]:Nat):Int) ((c2.toNat:Int) * 65536)=((Frm.num [c0,c1,c2]:Nat):Int):=or_num32 [c0,c1] c2 2 rfl dCz
 have q3:bits .or .u32 ((Frm.num [c0,c1,c2]:Nat):Int) ((c3.toNat:Int) * 16777216)=((Frm.num [c0,c1,c2,c3]:Nat):Int):=or_num32 [c0,c1,c2] c3 3 rfl dCz
 have hn:=Frm.num_lt [c0,c1,c2,c3]
 rw [show [c0,c1,c2,c3].length=4 from rfl,show (256:Nat)^4=4294967296 by decide]at hn
 have hp:(2:Nat)^j≤2^40:=Nat.pow_le_pow_right dCz oQ
 have hp1:(2:Nat)^40=1099511627776:=by decide
 have hp0:0<2^j:=Nat.two_pow_pos j
 have q4:=and_mask (Frm.num [c0,c1,c2,c3]) j oQ oQ
 generalize Frm.num [c0,c1,c2,c3]=N at *
 generalize hC:2^j=C at *
 have hw1:IntKind.i64.wrap ((C:Int) - 1)=((C - 1:Nat):Int):=by rw [IntKind.wrap_i64];omega
 have hw2:IntKind.i64.wrap (N:Int)=(N:Int):=IntWalk.i64_in _ oQ
 have hm2:N%C<C:=Nat.mod_lt _ hp0
 clear h hk hC hp hp1
 go_enter Tryz.func89,Tryz.ntmps89
 go_wp2_with fail
 go_ret
 refine ⟨_,rfl,?_,hB.drop⟩
 rw [Hh.out,Int.natCast_emod];rfl
end
section
variable {w0 w:World}{L L' R F:List HProp}{b o:Nat}{ops:Array Oper}{rest:List Oper}{a:Act}{Q:Exit→Act→World→Prop}
variable {dst:Option Tmp}{t T ty:TypeId}{pos:String}{after:Array Edge}{x y:Operand}{cs:Array Value}{v:Value}{P:Program}
theorem wl_loadW (ks:List Value) (hx:a.eval x = .pointer (some ⟨b,o,none⟩)) (hc:∀ j v,ks[j]?=some v→w.cell? ⟨b,o+j,none⟩=some v)
  {d:TypeDesc} (hu:P.underlying ty=some d) (hd:d.isRow=true) (hi:(P.info? ty).map (·.size)=some ks.length)
  (h:wpList P ops Q rest (a.put dst (.agg ks.toArray)) w):wpList P ops Q (⟨dst,.load ty x,t,pos,after,none⟩::rest) a w:=
 wpList_load_mid rfl ty x rfl b o hx ks d hc hu hd hi h
theorem wl_storeA (ks:Array Value) (hs:Sat w0 w L) (hx:a.eval x = .pointer (some ⟨b,0,none⟩)) (hy:a.eval y = .agg ks) (hsz:ks.size=cs.size) (u:Upd (pt b (.cells cs T (0,0))) (pt b (.cells ks T (0,0))) L L')
  (hi:(P.info? ty).map (·.size)=some ks.size) (h1:ks.toList.all (·.oneCell')=true)
  (hK:∀ w',Sat w0 w' L'→wpList P ops Q rest (a.put dst undef) w'):wpList P ops Q (⟨dst,.store ty x y,t,pos,after,none⟩::rest) a w:=
 wl_store hs hx hy (putsAt_eq (by
  show (putsAt cs 0 ks.toList).toList=_
  rw [putsAt_list _ _ _ (by rw [Array.length_toList];omega),List.take_zero,List.nil_append,Nat.zero_add,List.drop_of_length_le (by rw [Array.length_toList,Array.length_toList];omega),List.append_nil])) u (by show 0+ks.size≤cs.size;omega) hi h1 hK
end
abbrev plcA (q:Seg.Plc):Value:= .agg #[.int .i64 q.seg,.int .i64 q.at_,.int .i64 q.size]
theorem zPlace:zeroB Tryz.prog 107=some (.agg #[.int .i64 0,.int .i64 0,.int .i64 0]):=by kernel_rfl
structure SegBlk (l:List (Int×Int)) (n cap:Nat) (cs:Array Value):Prop where
 len:l.length=n+1
 le:n+1≤cap
 size:cap * 2≤cs.size
 max:cap≤maxLen
 take:cs.toList.take ((n+1) * 2)=segw l
theorem segw_set (l:List (Int×Int)) (s:Int×Int) (z:Int):(segw (l++[s])).set (l.length * 2+1) (.int .i64 z)=segw (l++[(s.1,z)]):=by
 rw [segw_app,segw_app]
 rw [List.set_append_right _ _ (by rw [segw_len];omega),segw_len,show l.length * 2+1 - 2 * l.length=1 by omega]
 rfl
theorem set_take {α:Type} (l:List α) (k i:Nat) (x:α) (h:i<k):(l.set i x).take k=(l.take k).set i x:=by
 rw [List.take_set]
section
variable {w0 w:World}{F R:List HProp}{v bv dv x lv:Value}{q p m K:Nat}{L:Seg.Log}{M:Med}{s:Int×Int}
theorem seg_block (hl:L.l.getLast?=some s) (h:Sat w0 w (LogRaw p m L lv++F)) :
  ∃ bk n cap cs,lv = .slice (some ⟨bk,0,none⟩) (n+1) cap∧SegBlk L.l n cap cs∧cs[n * 2]?=some (.int .i64 s.1)∧cs[n * 2+1]?=some (.int .i64 s.2) ∧
   Sat w0 w (logPt p m L (.slice (some ⟨bk,0,none⟩) (n+1) cap)::pt bk (.cells cs 159 (0,0))::F):=by
 rw [List.getLast?_eq_getElem?]at hl
 have hlt:=(List.getElem?_eq_some_iff.1 hl).1
 obtain ⟨n,hn⟩:∃ n,L.l.length=n+1:=⟨L.l.length - 1,by omega⟩
 rw [hn,Nat.add_sub_cancel]at hl
 obtain ⟨h1,h2⟩:=segw_at _ _ _ hl
 have hS:Sat w0 w (osl 159 2 lv (segw L.l)::logPt p m L lv::F):=h.pick1
 rcases hS.osl_cases with ⟨rfl,hx,_⟩|⟨b,n',cap,cs,rfl,hll,hn',hc,hcm,htk,hp⟩
 ·rw [hx]at h1;simp at h1
 ·rw [segw_len,hn]at hll
  obtain rfl:n'=n+1:=by omega
  refine ⟨b,n,cap,cs,rfl,⟨hn,hn',hc,hcm,htk⟩,?_,?_,hp.pick1⟩
  ·rw [Nat.mul_comm];exact take_get htk h1
  ·rw [Nat.mul_comm];exact take_get htk h2
theorem seg_keep {bk n cap:Nat}{cs:Array Value} (hb:SegBlk L.l n cap cs) (h:Sat w0 w (pt bk (.cells cs 159 (0,0))::R)) :
  Sat w0 w (osl 159 2 (.slice (some ⟨bk,0,none⟩) (n+1) cap) (segw L.l)::R):=
 Sat.osl_of_pt h (by rw [segw_len,hb.len];omega) hb.le hb.size hb.max hb.take
theorem seg_close {bk n cap:Nat}{cs:Array Value} (hl:L.l.getLast?=some s) (hb:SegBlk L.l n cap cs) (z:Int)
  (h:Sat w0 w (pt bk (.cells (putsAt cs (n * 2+1) [.int .i64 z]) 159 (0,0))::R)) :
  Sat w0 w (osl 159 2 (.slice (some ⟨bk,0,none⟩) (n+1) cap) (segw (L.l.dropLast++[(s.1,z)]))::R):=by
 have e:=Seg.last_split hl
 have hlen:=Seg.last_len hl
 have hn:=hb.len
 refine Sat.osl_of_pt h ?_ hb.le ?_ hb.max ?_
 ·rw [segw_len,List.length_append,List.length_singleton];omega
 ·rw [putsAt_size];exact hb.size
 ·simp only [putsAt,Array.toList_setIfInBounds]
  rw [set_take _ _ _ _ oQ,hb.take,e,List.dropLast_append_cons,show n=L.l.dropLast.length by omega]
  simp only [List.dropLast_singleton,List.append_nil]
  exact segw_set _ _ _
set_option maxRecDepth 20000 in
theorem grow_c (hl:L.l.getLast?=some s) (hs:0≤s.2∧s.2≤33554432) (hM:M.Ok K) (hKK:K≤1099511627776) (hlen:L.l.length≤1048576) (b:Bs) (hbl:b.length≤1073741824) (hr:Ro w0 F (rdsl 1 bv (bys b)))
  (h:Sat w0 w (LogRep p m L::MedRep m M::F)) :
  Calls Tryz.prog 139 #[ptr p,bv] w (Rtn fun v w'=>v = .tuple #[plcA (L.grow M b).2.1,errno (L.grow M b).2.2] ∧
   Sat w0 w' (LogRep p m (L.grow M b).1.1::MedRep m (L.grow M b).1.2::F)):=by
 obtain ⟨lv,hR⟩:=LogRep.open h
 clear h
 obtain ⟨bk,n,cap,cs,rfl,hb,c0,c1,hS⟩:=seg_block hl hR
 clear hR
 obtain ⟨ba,bn,bc,rfl,hbn⟩:=ro_len hr (A:=emp) (Sat.emp.2 (hS.sel 3 [] rfl rfl))
 subst hbn
 have Hg:=uQ (show L.grow M b=if (M.append (Seg.name s.1) b).2=0 then (({ L with l:=L.l.dropLast++[(s.1,s.2+(b.length:Int))] },(M.append (Seg.name s.1) b).1),⟨s.1,s.2,b.length⟩,0)
  else ((L,(M.append (Seg.name s.1) b).1),Seg.Plc.zero,(M.append (Seg.name s.1) b).2) by unfold Seg.Log.grow;rw [hl])
 have hn:=hb.len
 have Hb:=uQ hb;have Hr:=uQ hr;have Hl:=uQ hl;have Hs:=uQ hs;have Hc0:=uQ c0;have Hc1:=uQ c1;have Hbl:=uQ hbl
 have hn0:(n:Int)<(n:Int)+1:=oQ
 have hwn:IntKind.i64.wrap (n:Int)=(n:Int):=by rw [IntKind.wrap_i64];omega
 have hwz:IntKind.i64.wrap (s.2+(b.length:Int))=s.2+(b.length:Int):=by rw [IntKind.wrap_i64];omega
 have Hwz:=uQ hwz
 clear hn hb hr hl hs c0 c1 hbl hlen hwz
 go_enter Tryz.func139,Tryz.ntmps139
 go_wp2_with (refine wl_alloc zPlace aQ rfl ?_;intro q w1 hS1)
 refine wpL_begin [10,11] (fun w'=>w'.cell? ⟨p,2,none⟩=some (.slice (some ⟨bk,0,none⟩) (n+1) cap)) kRz ?_
 have hG:w1.drew.cell? ⟨p,2,none⟩=some (.slice (some ⟨bk,0,none⟩) (n+1) cap):=hS1.drew.cellP pkD 2 rfl
 refine rP 0 ?_ (y:=mvQ)
 refine rP 1 ?_ (y:=nlQ)
 refine rP 2 ?_ (y:=flQ)
 refine rt 3 (h:=?_)
 refine rP 4 ?_ (y:=mvQ)
 refine rP 5 ?_ (y:=nlQ)
 refine rP 6 ?_ (y:=flQ)
 refine rt 7 (h:=?_)
 refine rP 8 ?_ (y:=(yl_len evD rnD))
 refine rP 9 ?_ (y:=bnQ)
 refine rP 10 ?_ (y:=ixQ)
 refine rP 11 ?_ (y:=asQ)
 refine wpL_done kRz ?_
 clear hG
 have hS2:=hS1.drew
 generalize w1.drew=w2 at *
 clear hS1 hS
 go_wp2_with fail
 refine wpL_begin [10,11] (fun w'=>w'.cell? ⟨p,0,none⟩=some (ptr m)∧w'.cell? ⟨bk,n * 2,none⟩=some (.int .i64 s.1)) kRz ?_
 have hG:w2.drew.cell? ⟨p,0,none⟩=some (ptr m)∧w2.drew.cell? ⟨bk,n * 2,none⟩=some (.int .i64 s.1):=⟨hS2.drew.cellP pkD 0 rfl,hS2.drew.cellP pkD _ Hc0.out⟩
 refine rP 0 ?_ (y:=mvQ)
 refine rP 1 ?_ (y:=nlQ)
 refine rP 2 ?_ (y:=flQ)
 refine rt 3 (h:=?_)
 refine rP 4 ?_ (y:=mvQ)
 refine rP 5 ?_ (y:=nlQ)
 refine rP 6 ?_ (y:=flQ)
 refine rt 7 (h:=?_)
 refine rP 9 ?_ (y:=mvQ)
 refine rg_eff 8 evD kRz (fun K hK=>?_)
 clear hG
 (refine eff_call1 kRz evD ?_)
 refine (sname_c s.1 hS2.drew).mono ?_
 rintro e w3 ⟨v,rfl,rfl,hS3⟩
 refine hK _ _ (.inr (.inl ⟨hS3.cellP pkD 0 rfl,hS3.cellP pkD _ Hc0.out⟩)) ?_
 clear hK K
 refine rg_eff 10 evD kRz (fun K hK=>?_)
 (refine eff_call3 kRz evD evD evD ?_)
 refine (append_c hM hKK (Sat.pk aQ) _ b (by first|assumption|exact Ro.op (Ro.bsl _ _)|exact Ro.os aQ)).mono ?_
 rintro e w4 ⟨v,rfl,rfl,hS4⟩
 refine hK _ _ (.inl rfl) ?_
 clear hK K
 refine rP 11 ?_ (y:=asQ)
 refine wpL_done kRz ?_
 clear hS3 hS2 Hr
 generalize M.append (Seg.name s.1) b=r at *
 obtain ⟨M2,ee⟩:=r
 by_cases he:ee=0
 ·subst he
  have hfin:=uQ (Hg.out.trans (if_pos rfl))
  have e1:w4.cell? ⟨bk,n * 2+1,none⟩=some (.int .i64 s.2):=hS4.cellP pkD _ Hc1.out
  have hfit:=Hb.out.size;have hle:=Hb.out.le
  have hst:=uQ (show n * 2+1+(Value.int .i64 (s.2+(b.length:Int))).cells.size≤cs.size by show n * 2+1+1≤cs.size;omega)
  have hwz:=Hwz.out
  clear hfit hle
  go_wp2_with (refine wpList_stop rFz ?_)
  refine ⟨wl_store (b:=bk) (o:=n * 2+1) (v:= .int .i64 (s.2+(b.length:Int))) aQ rFz rFz rfl upD hst.out kRz rFz ?_⟩
  intro w5 hS5
  have e0:w5.cell? ⟨bk,n * 2,none⟩=some (.int .i64 s.1):=hS5.cellP pkD _ (by
   show (cs.setIfInBounds (n * 2+1) _)[n * 2]?=_
   rw [Array.getElem?_setIfInBounds_ne oQ];exact Hc0.out)
  clear e1 hst hwz
  go_wp2_with ((with_reducible refine at_store ⟨?_⟩);refine wl_store aQ rFz evD pQ upD nLz kRz rFz ?_;intro wS hS)
  refine ⟨rfl,_,res_cell_tmp rfl aQ rFz pkD Tryz.underlying107 rfl kRz,_,rfl,?_,?_⟩
  ·rw [hfin.out];rfl
  ·rw [hfin.out]
   have h6:=seg_close Hl.out Hb.out _ (Sat.pk hS)
   exact LogRep.shut2 (lv:= .slice (some ⟨bk,0,none⟩) (n+1) cap) (Sat.sb h6)
 ·have heb:(ee==0)=false:=beq_false_of_ne he
  have hfin:=uQ (Hg.out.trans (if_neg he))
  clear he
  go_wp2_with ((with_reducible refine at_store ⟨?_⟩);refine wl_store aQ rFz evD pQ upD nLz kRz rFz ?_;intro wS hS)
  refine ⟨rfl,_,res_cell_tmp rfl aQ rFz pkD Tryz.underlying107 rfl kRz,_,rfl,?_,?_⟩
  ·rw [hfin.out];rfl
  ·rw [hfin.out]
   have h6:=seg_keep Hb.out (Sat.pk hS)
   exact LogRep.shut2 (lv:= .slice (some ⟨bk,0,none⟩) (n+1) cap) (Sat.sb h6)
end
end Go.Proofs.YtlimfgdbfadohaaGreatDoor
namespace Go.Seg
open Go.Med
theorem Log.shut_off {L:Log} (M:Med) (h:L.on=false):L.shut M=((L,M),0):=by
 unfold Log.shut
 split
 ·rfl
 ·rw [if_neg (by rw [h];decide)]
theorem Log.Ok.last {L:Log} (h:L.Ok) (hon:L.on=true):∃ s,L.l.getLast?=some s:=by
 cases hl:L.l.getLast? with
 |none=>exact absurd (List.getLast?_eq_none_iff.1 hl) (h.on hon)
 |some s=>exact ⟨s,rfl⟩
theorem Log.shut_on {L:Log} (M:Med){s:Int×Int} (hl:L.l.getLast?=some s) (h:L.on=true) :
  L.shut M=if (M.sync (name s.1)).2=0 then (({ L with on:=false },(M.sync (name s.1)).1),0) else ((L,(M.sync (name s.1)).1),(M.sync (name s.1)).2):=by
 unfold Log.shut
 rw [hl]
 simp only [h,if_true]
end Go.Seg
namespace Go.Proofs.YtlimfgdbfadohaaGreatDoor
open Go Go.Sl Go.Med Go.MapKept Go.RowKit
section
variable {w0 w:World}{F R:List HProp}{v bv dv x lv:Value}{q p m K:Nat}{L:Seg.Log}{M:Med}{s:Int×Int}
set_option maxRecDepth 20000 in
theorem shut_c (hL:L.Ok) (hM:M.Ok K) (h:Sat w0 w (LogRep p m L::MedRep m M::F)) :
  Calls Tryz.prog 178 #[ptr p] w (Rtn fun v w'=>v=errno (L.shut M).2∧Sat w0 w' (LogRep p m (L.shut M).1.1::MedRep m (L.shut M).1.2::F)):=by
 cases hon:L.on
 ·obtain ⟨lv,hR⟩:=LogRep.open h
  refine (shut0_c hon hR).mono ?_
  rintro e w1 ⟨v,rfl,rfl,rfl⟩
  rw [Seg.Log.shut_off M hon]
  exact ⟨_,rfl,rfl,h⟩
 ·obtain ⟨s,hl⟩:=hL.last hon
  obtain ⟨lv,hR⟩:=LogRep.open h
  clear h
  have hlen:=hL.len
  obtain ⟨bk,n,cap,cs,rfl,hb,c0,c1,hS⟩:=seg_block hl hR
  clear hR c1
  have hn:=hb.len
  have Hg:=uQ (Seg.Log.shut_on M hl hon)
  have Hb:=uQ hb;have Hl:=uQ hl;have Hc0:=uQ c0
  have hn0:(n:Int)<(n:Int)+1:=oQ
  have hwn:IntKind.i64.wrap (n:Int)=(n:Int):=by rw [IntKind.wrap_i64];omega
  have e3:w.cell? ⟨p,3,none⟩=some (.bool true):=hS.cellP pkD 3 (by rw [← hon];rfl)
  clear hn hb hl c0 hlen hon
  go_enter Tryz.func178,Tryz.ntmps178
  go_wp2_with fail
  refine wpL_begin [18,19] (fun w'=>w'.cell? ⟨p,0,none⟩=some (ptr m)∧w'.cell? ⟨p,2,none⟩=some (.slice (some ⟨bk,0,none⟩) (n+1) cap)∧w'.cell? ⟨bk,n * 2,none⟩=some (.int .i64 s.1)) kRz ?_
  have hG:w.drew.cell? ⟨p,0,none⟩=some (ptr m)∧w.drew.cell? ⟨p,2,none⟩=some (.slice (some ⟨bk,0,none⟩) (n+1) cap)∧w.drew.cell? ⟨bk,n * 2,none⟩=some (.int .i64 s.1):=⟨hS.drew.cellP pkD 0 rfl,hS.drew.cellP pkD 2 rfl,hS.drew.cellP pkD _ Hc0.out⟩
  refine rP 0 ?_ (y:=mvQ)
  refine rP 1 ?_ (y:=nlQ)
  refine rP 2 ?_ (y:=flQ)
  refine rt 3 (h:=?_)
  refine rP 4 ?_ (y:=mvQ)
  refine rP 5 ?_ (y:=nlQ)
  refine rP 6 ?_ (y:=flQ)
  refine rt 7 (h:=?_)
  refine rP 8 ?_ (y:=mvQ)
  refine rP 9 ?_ (y:=nlQ)
  refine rP 10 ?_ (y:=flQ)
  refine rt 11 (h:=?_)
  refine rP 12 ?_ (y:=(yl_len evD rnD))
  refine rP 13 ?_ (y:=bnQ)
  refine rP 14 ?_ (y:=ixQ)
  refine rP 15 ?_ (y:=flQ)
  refine rt 16 (h:=?_)
  clear hG e3
  refine rg_eff 17 evD kRz (fun K hK=>?_)
  (refine eff_call1 kRz evD ?_)
  refine (sname_c s.1 hS.drew).mono ?_
  rintro e w3 ⟨v,rfl,rfl,hS3⟩
  refine hK _ _ (.inr (.inl ⟨hS3.cellP pkD 0 rfl,hS3.cellP pkD 2 rfl,hS3.cellP pkD _ Hc0.out⟩)) ?_
  clear hK K
  refine rg_eff 18 evD kRz (fun K hK=>?_)
  (refine eff_call2 kRz evD evD ?_)
  refine (sync_c hM (Sat.pk aQ) _).mono ?_
  rintro e w4 ⟨v,rfl,rfl,hS4⟩
  refine hK _ _ (.inl rfl) ?_
  clear hK K
  refine rP 19 ?_ (y:=asQ)
  refine wpL_done kRz ?_
  clear hS3 hS
  generalize M.sync (Seg.name s.1)=r at *
  obtain ⟨M2,ee⟩:=r
  by_cases he:ee=0
  ·subst he
   have hfin:=uQ (Hg.out.trans (if_pos rfl))
   go_wp2_with ((with_reducible refine at_store ⟨?_⟩);refine wl_store aQ rFz evD pQ upD nLz kRz rFz ?_;intro wS hS)
   go_ret
   refine ⟨errno 0,rfl,by rw [hfin.out],?_⟩
   rw [hfin.out]
   have h6:=seg_keep Hb.out (Sat.pk hS)
   exact LogRep.shut2 (lv:= .slice (some ⟨bk,0,none⟩) (n+1) cap) (Sat.sb h6)
  ·have heb:(ee==0)=false:=beq_false_of_ne he
   have hfin:=uQ (Hg.out.trans (if_neg he))
   clear he
   go_wp2_with ((with_reducible refine at_store ⟨?_⟩);refine wl_store aQ rFz evD pQ upD nLz kRz rFz ?_;intro wS hS)
   go_ret
   refine ⟨errno ee,rfl,by rw [hfin.out],?_⟩
   rw [hfin.out]
   have h6:=seg_keep Hb.out (Sat.pk hS4)
   exact LogRep.shut2 (lv:= .slice (some ⟨bk,0,none⟩) (n+1) cap) (Sat.sb h6)
end
end Go.Proofs.YtlimfgdbfadohaaGreatDoor
namespace Go.Seg
open Go.Med
theorem Log.shut_med {L:Log}{M:Med}{K:Nat} (h:M.Ok K):(L.shut M).1.2.Ok (K+1):=by
 unfold Log.shut
 split;· exact h.mono (Nat.le_succ K)
 split
 ·split <;> exact h.sync _
 ·exact h.mono (Nat.le_succ K)
theorem Log.begin_eq (L:Log) (M:Med) (b:Bs):L.begin M b=if (L.shut M).2=0 then (L.shut M).1.1.begin1 (L.shut M).1.2 b else ((L.shut M).1,Plc.zero,(L.shut M).2):=rfl
theorem name_size (n:Int):(name n).size≤9223372036854775807:=by
 unfold name
 split
 ·decide
 ·show (lead++digs n.toNat 8).toArray.size≤_
  rw [List.size_toArray,List.length_append,digs_len];decide
end Go.Seg
namespace Go.Proofs.YtlimfgdbfadohaaGreatDoor
open Go Go.Sl Go.Med Go.MapKept Go.RowKit
section
variable {w0 w:World}{F R:List HProp}{v bv dv x lv:Value}{q p m K:Nat}{L:Seg.Log}{M:Med}{s:Int×Int}
theorem lnext_c (hL:L.Ok) (h:Sat w0 w (LogRep p m L::F)) :
  Calls Tryz.prog 179 #[ptr p] w (Rtn fun v w'=>v = .int .i64 L.next∧Sat w0 w' (LogRep p m L::F)):=by
 obtain ⟨lv,hR⟩:=LogRep.open h
 refine (snext_c hL.len hL.nums hR).mono ?_
 rintro e w1 ⟨v,rfl,rfl,hS⟩
 exact ⟨_,rfl,rfl,LogRep.shut2 hS⟩
theorem segw_snoc (l:List (Int×Int)) (n z:Int):segw l++[.int .i64 n,.int .i64 z]=segw (l++[(n,z)]):=by rw [segw_app];rfl
set_option maxRecDepth 20000 in
theorem begin_c (hL:L.Ok) (hM:M.Ok K) (hKK:K+4≤1099511627776) (b:Bs) (hb0:b≠[]) (hbl:b.length≤16777216) (hr:Ro w0 F (rdsl 1 bv (bys b)))
  (h:Sat w0 w (LogRep p m L::MedRep m M::F)) :
  Calls Tryz.prog 140 #[ptr p,bv] w (Rtn fun v w'=>v = .tuple #[plcA (L.begin M b).2.1,errno (L.begin M b).2.2] ∧
   Sat w0 w' (LogRep p m (L.begin M b).1.1::MedRep m (L.begin M b).1.2::F)):=by
 obtain ⟨ba,bn,bc,rfl,hbn⟩:=ro_len hr (A:=emp) (Sat.emp.2 (h.sel 2 [] rfl rfl))
 subst hbn
 obtain ⟨i,hi,hz0,hz1,hz2⟩:=info8p
 have Hg:=uQ (Seg.Log.begin_eq L M b)
 have HM:=uQ (Seg.Log.shut_med (L:=L) hM)
 have HL:=uQ (hL.shut M)
 have Hr:=uQ hr;have Hb0:=uQ hb0;have Hbl:=uQ hbl
 clear hr hb0 hbl
 go_enter Tryz.func140,Tryz.ntmps140
 go_wp2_with (refine wl_alloc zPlace aQ rfl ?_;intro q w1 hS1)
 refine (shut_c hL hM (Sat.sb aQ)).mono ?_
 rintro e w2 ⟨v,rfl,rfl,hS2⟩
 clear hS1 h hL hM
 generalize L.shut M=S at *
 obtain ⟨⟨L1,M1⟩,e1⟩:=S
 by_cases he:e1=0
 rotate_left
 ·have heb:(e1==0)=false:=beq_false_of_ne he
  have hfin:=uQ (Hg.out.trans (if_neg he))
  clear he
  go_wp2_with ((with_reducible refine at_store ⟨?_⟩);refine wl_store aQ rFz evD pQ upD nLz kRz rFz ?_;intro wS hS)
  refine ⟨rfl,_,res_cell_tmp rfl aQ rFz pkD Tryz.underlying107 rfl kRz,_,rfl,?_,?_⟩
  ·rw [hfin.out];rfl
  ·rw [hfin.out];exact Sat.sb hS
 subst he
 have H1:=uQ (Hg.out.trans (if_pos rfl))
 clear Hg
 go_wp2_with fail
 refine (lnext_c HL.out (Sat.pk aQ)).mono ?_
 rintro e w3 ⟨v,rfl,rfl,hS3⟩
 clear hS2
 have hs1:=uQ HL.out.next
 have hfr:=uQ HL.out.fresh
 have hln:=uQ HL.out.len
 unfold Seg.Log.begin1 at H1
 have Hnm:=uQ (Seg.name_size L1.next)
 by_cases hn:1048576≤L1.next
 ·have hfin:=uQ (H1.out.trans (if_pos hn))
  generalize L1.next=n at *
  go_wp2_with ((with_reducible refine at_store ⟨?_⟩);refine wl_store aQ rFz evD pQ upD nLz kRz rFz ?_;intro wS hS)
  refine ⟨rfl,_,res_cell_tmp rfl aQ rFz pkD Tryz.underlying107 rfl kRz,_,rfl,?_,?_⟩
  ·rw [hfin.out];rfl
  ·rw [hfin.out];exact Sat.sb hS
 have H2:=uQ (H1.out.trans (if_neg hn))
 clear H1
 have Hn:=uQ hn
 have hnd:¬ 1048576≤L1.next:=hn
 clear hn
 have hnm:=sname_c L1.next hS3
 generalize hnn:L1.next=n at *
 have Hnn:=uQ hnn
 clear hnn
 go_wp2_with fail
 refine hnm.mono ?_
 rintro e w4 ⟨v,rfl,rfl,hS4⟩
 clear hnm hS3 hnd
 generalize Seg.name n=nm at *
 obtain ⟨lv,hR⟩:=LogRep.open2 (Sat.pk aQ)
 have e0:w4.cell? ⟨p,0,none⟩=some (ptr m):=hR.cellP pkD 0 rfl
 go_wp2_with fail
 refine (create_c HM.out oQ (Sat.pk aQ) nm Hnm.out).mono ?_
 rintro e w5 ⟨v,rfl,rfl,hS5⟩
 have HM2:=uQ (HM.out.create nm)
 clear hS4 hR e0
 generalize M1.create nm=C at *
 obtain ⟨M2,e2⟩:=C
 by_cases he:e2=0
 rotate_left
 ·have heb:(e2==0)=false:=beq_false_of_ne he
  have hfin:=uQ (H2.out.trans (if_pos he))
  clear he
  go_wp2_with ((with_reducible refine at_store ⟨?_⟩);refine wl_store aQ rFz evD pQ upD nLz kRz rFz ?_;intro wS hS)
  refine ⟨rfl,_,res_cell_tmp rfl aQ rFz pkD Tryz.underlying107 rfl kRz,_,rfl,?_,?_⟩
  ·rw [hfin.out];rfl
  ·rw [hfin.out];exact LogRep.shut2 (lv:=lv) (Sat.sb hS)
 subst he
 have H3:=uQ (H2.out.trans (if_neg (fun h=>h rfl)))
 clear H2
 go_wp2_with fail
 refine wpL_begin [9,10] (fun w'=>w'.cell? ⟨p,0,none⟩=some (ptr m)) kRz ?_
 have hG:w5.drew.cell? ⟨p,0,none⟩=some (ptr m):=hS5.drew.cellP pkD 0 rfl
 refine rP 0 ?_ (y:=mvQ)
 refine rP 1 ?_ (y:=nlQ)
 refine rP 2 ?_ (y:=flQ)
 refine rt 3 (h:=?_)
 refine rP 4 ?_ (y:=mvQ)
 refine rP 7 ?_ (y:=mvQ)
 refine rg_eff 5 evD kRz (fun K hK=>?_)
 go_simp
 have hB1:=hS5.drew.alloc (.cells #[.int .u8 72,.int .u8 79,.int .u8 65,.int .u8 82,.int .u8 68,.int .u8 83,.int .u8 69,.int .u8 71] 5)
 refine hK _ _ (.inr (.inl (hB1.cellP pkD 0 rfl))) ?_
 clear hK K hG hB1
 refine rg_eff 6 evD kRz (fun K hK=>?_)
 have hcv:(convert 27 27 (.slice (some ⟨w5.heap.size,0,none⟩) 8 8)).run Tryz.prog ((w5.alloc (.cells #[.int .u8 72,.int .u8 79,.int .u8 65,.int .u8 82,.int .u8 68,.int .u8 83,.int .u8 69,.int .u8 71] 5)).drew) = .ok (.slice (some ⟨w5.heap.size,0,none⟩) 8 8) ((w5.alloc (.cells #[.int .u8 72,.int .u8 79,.int .u8 65,.int .u8 82,.int .u8 68,.int .u8 83,.int .u8 69,.int .u8 71] 5 (8,9))).drew):=
  Lib.run_convert_bytes_const (P:=Tryz.prog) w5.drew 27 5 #[.int .u8 72,.int .u8 79,.int .u8 65,.int .u8 82,.int .u8 68,.int .u8 83,.int .u8 69,.int .u8 71] 8 8 Tryz.underlying27 Tryz.underlying5
 have hB:=(hS5.alloc (.cells #[.int .u8 72,.int .u8 79,.int .u8 65,.int .u8 82,.int .u8 68,.int .u8 83,.int .u8 69,.int .u8 71] 5 (8,9))).drew
 go_simp
 refine hK _ _ (.inr (.inl (hB.cellP pkD 0 rfl))) ?_
 clear hK K
 have hrd:=Hr.out _ (hB.sb)
 have hold:rdsl 1 (.slice (some ⟨w5.heap.size,0,none⟩) 8 8) (bys Seg.mag) ((w5.alloc (.cells #[.int .u8 72,.int .u8 79,.int .u8 65,.int .u8 82,.int .u8 68,.int .u8 83,.int .u8 69,.int .u8 71] 5 (8,9))).drew):=by
  refine ⟨_,8,8,rfl,rfl,fun j x hj=>⟨_,rfl,?_⟩⟩
  rw [add_zero_lit]
  have hjl:j<Seg.mag.length:=by
   have:=(List.getElem?_eq_some_iff.1 hj).1
   rw [bys_len]at this;exact this
  have hx:=(mrow_set (l:=Seg.mag) hB hjl 0).1
  unfold bys at hj
  rw [List.getElem?_map,List.getElem?_eq_getElem hjl]at hj
  cases hj
  exact hx
 have hy0:bys b≠[]:=by
  intro h
  apply Hb0.out
  unfold bys at h
  exact List.map_eq_nil_iff.1 h
 have h63:(bys Seg.mag).length+(bys b).length≤maxLen:=by rw [bys_len,bys_len];have:=Hbl.out;unfold maxLen Seg.mag;simp;omega
 have hby:((bys Seg.mag).length+(bys b).length) * i.bytes≤140737488355328:=by rw [bys_len,bys_len,hz2];have:=Hbl.out;unfold Seg.mag;simp;omega
 refine rg_eff 8 evD kRz (fun K hK=>?_)
 refine step_append_fresh (w0:=w0) (xs:=bys Seg.mag) (b:=w5.heap.size) (n:=8) (cap:=8) rFz _ _ _ rFz _ i _ Tryz.underlying27 hi hz0 hz1 rFz rfl (Nat.le_refl _) hold hB.drop rFz rFz hrd hy0 h63 hby ?_
 intro b4 n4 k4 w6 hS6
 clear hcv hrd hold hy0 h63 hby hB
 have hS6:Sat w0 w6 (bsl (.slice (some ⟨b4,0,none⟩) n4 k4) (Seg.mag++b)::MedRep m M2::pt q (.cells #[.int .i64 0,.int .i64 0,.int .i64 0] 107)::logPt p m L1 lv::osl 159 2 lv (segw L1.l)::F):=by
  have e:bys Seg.mag++bys b=bys (Seg.mag++b):=by unfold bys;rw [List.map_append]
  rw [e]at hS6
  exact Sat.sb hS6
 refine hK _ _ (.inr (.inl (hS6.cellP pkD 0 rfl))) ?_
 clear hK K hS5
 refine rg_eff 9 evD kRz (fun K hK=>?_)
 (refine eff_call3 kRz evD evD evD ?_)
 refine (append_c HM2.out oQ (Sat.pk aQ) nm (Seg.mag++b) (by first|assumption|exact Ro.op (Ro.bsl _ _)|exact Ro.os aQ)).mono ?_
 rintro e w7 ⟨v,rfl,rfl,hS7⟩
 refine hK _ _ (.inl rfl) ?_
 clear hK K
 refine rP 10 ?_ (y:=asQ)
 refine wpL_done kRz ?_
 clear hS6
 have HM3:=uQ (HM2.out.append nm (Seg.mag++b))
 generalize M2.append nm (Seg.mag++b)=D at *
 obtain ⟨M3,e3⟩:=D
 by_cases he:e3=0
 ·subst he
  have hfin:=uQ (H3.out.trans (if_pos rfl))
  have c2:w7.cell? ⟨p,2,none⟩=some lv:=hS7.cellP pkD 2 rfl
  have hwl:IntKind.i64.wrap (8+(b.length:Int))=8+(b.length:Int):=by rw [IntKind.wrap_i64];have:=Hbl.out;omega
  obtain ⟨ii,hii,hy0,hy1,hy2⟩:=info_parts infoSeg
  have h7:=hS7.alloc (.cells #[.int .i64 n,.int .i64 (8+(b.length:Int))] 159)
  have hoc:∀ u∈(#[.int .i64 n,.int .i64 (8+(b.length:Int))]:Array Value).toList,u.oneCell'=true:=by
   intro u hu
   simp only [List.mem_cons,List.not_mem_nil,or_false]at hu
   rcases hu with rfl|rfl <;> rfl
  have h63:(segw L1.l).length+2≤maxLen:=by rw [segw_len];have:=hln.out;unfold maxLen;omega
  have hby:((segw L1.l).length+2) * ii.bytes≤140737488355328:=by rw [segw_len,hy2];have:=hln.out;omega
  have h8:Sat w0 _ (osl 159 2 lv (segw L1.l)::logPt p m L1 lv::pt q (.cells #[.int .i64 0,.int .i64 0,.int .i64 0] 107)::MedRep m M3::F):=h7.sb
  have hwf:IntKind.i64.wrap (L1.fresh+1)=L1.fresh+1:=by rw [IntKind.wrap_i64];have:=hfr.out;have:=hln.out;omega
  go_wp2_with (first
   |(at_builtin;refine wpList_append (w0:=w0) rFz _ _ _ rFz _ ii _ Tryz.underlying149 hii hy0 hy1 rFz oQ rFz rFz hoc h8 (rdsl_new _ _ _ 2 1 1 rFz) h63 hby ?_;intro v2 w8 hS8 hne;obtain ⟨ab,an,ac,rfl⟩:=hne (by simp);clear h8 h7 hS7 c2 hoc h63 hby hne)
   |((with_reducible refine at_load ⟨?_⟩);refine wl_load1 aQ rFz pkD nLz evD kRz ?_)|((with_reducible refine at_store ⟨?_⟩);refine wl_store aQ rFz evD pQ upD nLz kRz rFz ?_;intro wS hS))
  refine ⟨rfl,_,res_cell_tmp rfl aQ rFz pkD Tryz.underlying107 rfl kRz,_,rfl,?_,?_⟩
  ·rw [hfin.out];rfl
  ·rw [hfin.out]
   have e:segw L1.l++[.int .i64 n,.int .i64 (8+(b.length:Int))]=segw (L1.l++[(n,8+(b.length:Int))]):=segw_snoc _ _ _
   rw [e]at hS
   exact LogRep.shut2 (lv:= .slice (some ⟨ab,0,none⟩) an ac) (Sat.sb hS)
 have H4:=uQ (H3.out.trans (if_neg he))
 have heb:(e3==0)=false:=beq_false_of_ne he
 clear he H3
 by_cases he:e3=11
 ·subst he
  have H5:=uQ (H4.out.trans (if_pos rfl))
  have e0:w7.cell? ⟨p,0,none⟩=some (ptr m):=hS7.cellP pkD 0 rfl
  go_wp2_with fail
  refine (remove_c HM3.out oQ (Sat.pk aQ) nm).mono ?_
  rintro e w8 ⟨v,rfl,rfl,hS8⟩
  clear hS7 e0
  generalize M3.remove nm=E at *
  obtain ⟨M4,e4⟩:=E
  by_cases he:e4=0
  ·subst he
   go_wp2_with ((with_reducible refine at_store ⟨?_⟩);refine wl_store aQ rFz evD pQ upD nLz kRz rFz ?_;intro wS hS)
   refine ⟨rfl,_,res_cell_tmp rfl aQ rFz pkD Tryz.underlying107 rfl kRz,_,rfl,?_,?_⟩
   ·rw [H5.out];rfl
   ·rw [H5.out];exact LogRep.shut2 (lv:=lv) (Sat.sb hS)
  ·have heb:(e4==0)=false:=beq_false_of_ne he
   have H6:=uQ (H5.out.trans (by rw [if_neg he]))
   clear he
   go_wp2_with ((with_reducible refine at_store ⟨?_⟩);refine wl_store aQ rFz evD pQ upD nLz kRz rFz ?_;intro wS hS)
   refine ⟨rfl,_,res_cell_tmp rfl aQ rFz pkD Tryz.underlying107 rfl kRz,_,rfl,?_,?_⟩
   ·rw [H6.out];rfl
   ·rw [H6.out];exact LogRep.shut2 (lv:=lv) (Sat.sb hS)
 ·have hfin:=uQ (H4.out.trans (if_neg he))
  have heb2:(e3==11)=false:=beq_false_of_ne he
  clear he H4
  go_wp2_with ((with_reducible refine at_store ⟨?_⟩);refine wl_store aQ rFz evD pQ upD nLz kRz rFz ?_;intro wS hS)
  refine ⟨rfl,_,res_cell_tmp rfl aQ rFz pkD Tryz.underlying107 rfl kRz,_,rfl,?_,?_⟩
  ·rw [hfin.out];rfl
  ·rw [hfin.out];exact LogRep.shut2 (lv:=lv) (Sat.sb hS)
end
end Go.Proofs.YtlimfgdbfadohaaGreatDoor
namespace Go.Seg
open Go.Med
theorem encode_ne (x:Frm.Ent) (h:(Frm.encode x).2=0):(Frm.encode x).1≠[]:=by
 unfold Frm.encode at *
 split at h
 ·rename_i hc;exact absurd h hc
 ·rename_i hc
  rw [if_neg hc]
  intro e
  have:=congrArg List.length e
  simp [Frm.le_len]at this
theorem Log.append_bad {L:Log}{M:Med}{x:Frm.Ent} (h:(Frm.encode x).2≠0):L.append M x=((L,M),Plc.zero,(Frm.encode x).2):=by
 unfold Log.append;rw [if_pos h]
theorem Log.append_grow {L:Log}{M:Med}{x:Frm.Ent} (h:(Frm.encode x).2=0) (hf:L.fits (Frm.encode x).1.length=true):L.append M x=L.grow M (Frm.encode x).1:=by
 unfold Log.append;rw [if_neg (fun hh=>hh h),if_pos hf]
theorem Log.append_begin {L:Log}{M:Med}{x:Frm.Ent} (h:(Frm.encode x).2=0) (hf:L.fits (Frm.encode x).1.length=false):L.append M x=L.begin M (Frm.encode x).1:=by
 unfold Log.append;rw [if_neg (fun hh=>hh h),if_neg (by rw [hf];decide)]
theorem Log.fits_off {L:Log} (n:Nat) (h:L.on=false):L.fits n=false:=by unfold Log.fits;rw [h];rfl
theorem Log.fits_on {L:Log}{s:Int×Int} (n:Nat) (h:L.on=true) (hl:L.l.getLast?=some s):L.fits n=decide (s.2+n≤L.limit):=by
 unfold Log.fits;rw [h,hl];rfl
end Go.Seg
namespace Go.Proofs.YtlimfgdbfadohaaGreatDoor
open Go Go.Sl Go.Med Go.MapKept Go.RowKit
section
variable {w0 w:World}{F R:List HProp}{v bv dv x lv:Value}{q p m K:Nat}{L:Seg.Log}{M:Med}{s:Int×Int}
theorem seg_block2 (hl:L.l.getLast?=some s) (h:Sat w0 w (logPt p m L lv::osl 159 2 lv (segw L.l)::F)) :
  ∃ bk n cap cs,lv = .slice (some ⟨bk,0,none⟩) (n+1) cap∧SegBlk L.l n cap cs∧cs[n * 2]?=some (.int .i64 s.1)∧cs[n * 2+1]?=some (.int .i64 s.2) ∧
   Sat w0 w (logPt p m L (.slice (some ⟨bk,0,none⟩) (n+1) cap)::pt bk (.cells cs 159 (0,0))::F):=seg_block hl h
set_option maxRecDepth 20000 in
theorem lappend_c (e:Frm.Ent) (hk:e.key.length=32) (da:Option Addr) (dc:Nat) (hd:Ro w0 F (rdsl 1 (.slice da e.data.length dc) (bys e.data))) (hH:Ro w0 F Half) (hLd:e.data.length≤1099511627)
  (hL:L.Ok) (hM:M.Ok K) (hKK:K+4≤1099511627776) (h:Sat w0 w (LogRep p m L::MedRep m M::F)) :
  Calls Tryz.prog 93 #[ptr p,.agg (entA e (.slice da e.data.length dc))] w (Rtn fun v w'=>v = .tuple #[plcA (L.append M e).2.1,errno (L.append M e).2.2] ∧
   Sat w0 w' (LogRep p m (L.append M e).1.1::MedRep m (L.append M e).1.2::F)):=by
 obtain ⟨lv,hR⟩:=LogRep.open2 h
 clear h
 have hsz:=entA_size e (.slice da e.data.length dc) hk
 have Hsz:=uQ hsz
 have Hd:=uQ hd;have HH:=uQ hH;have Hk:=uQ hk;have HLd:=uQ hLd
 have HL:=uQ hL;have HM:=uQ hM
 have Hln:=uQ hL.len
 have Hel:=uQ (show (Frm.encode e).1.length≤16425 from Seg.encode_len e hk)
 have Hne:=uQ (Seg.encode_ne e)
 have A0:=uQ (Seg.Log.append_bad (L:=L) (M:=M) (x:=e))
 have A1:=uQ (Seg.Log.append_grow (L:=L) (M:=M) (x:=e))
 have A2:=uQ (Seg.Log.append_begin (L:=L) (M:=M) (x:=e))
 clear hsz hd hH hk hLd hL hM
 go_enter Tryz.func93,Tryz.ntmps93
 go_wp2_with (first
  |((with_reducible refine at_box ⟨?_⟩);refine wl_box aQ rFz (cs:=entA e (.slice da e.data.length dc)) rfl ?_;intro q3 w1 hS1)
  |(refine wl_alloc zPlace aQ rfl ?_;intro q w2 hS2))
 refine (ok_c (Sat.pk aQ)).mono ?_
 rintro ee w3 ⟨v,rfl,rfl,rfl⟩
 clear hS1 hR
 go_wp2_with ((with_reducible refine at_load ⟨?_⟩);refine wl_loadA aQ rFz pkD Tryz.underlying137 rFz (by rw [Hsz.out];kernel_rfl) ?_)
 refine (encode_c e Hk.out da dc (by first|assumption|exact Ro.op (Ro.bsl _ _)|exact Ro.os aQ) (by first|assumption|exact Ro.op (Ro.bsl _ _)|exact Ro.os aQ) hS2 HLd.out).mono ?_
 rintro ee w3 ⟨v,rfl,bv,rfl,⟨ba,bn,bc,rfl⟩,hS3⟩
 clear hS2
 generalize hE:Frm.encode e=E at *
 have HE:=uQ hE
 clear hE
 obtain ⟨b,e1⟩:=E
 have Hel2:Hid (b.length≤16425):=Hel
 by_cases he:e1=0
 rotate_left
 ·have heb:(e1==0)=false:=beq_false_of_ne he
  have hfin:=uQ (A0.out he)
  clear he
  go_wp2_with ((with_reducible refine at_store ⟨?_⟩);refine wl_store aQ rFz evD pQ upD nLz kRz rFz ?_;intro wS hS)
  refine ⟨rfl,_,res_cell_tmp rfl aQ rFz pkD Tryz.underlying107 rfl kRz,_,rfl,?_,?_⟩
  ·rw [hfin.out];rfl
  ·rw [hfin.out];exact LogRep.shut2 (lv:=lv) (Sat.sb hS)
 subst he
 have hbn:bn=b.length:=by
  obtain ⟨a',n',c',he,hl,_⟩:=Sat.rd hS3
  cases he
  rw [bys_len,Nat.mul_one]at hl
  exact hl.symm
 subst hbn
 have Hb0:=uQ (Hne.out rfl)
 clear A0 Hne
 cases hon:L.on
 ·have hf:=Seg.Log.fits_off b.length hon
  have hfin:=uQ (A2.out rfl hf)
  have c3:w3.cell? ⟨p,3,none⟩=some (.bool false):=hS3.cellP pkD 3 (by rw [← hon];rfl)
  clear hf A1 A2 hon
  go_wp2_with fail
  have hS4:=hS3.drew
  have c3':w3.drew.cell? ⟨p,3,none⟩=some (.bool false):=c3
  go_region
  clear c3 c3'
  have hS5:Sat w0 _ (LogRep p m L::MedRep m M::_):=LogRep.shut2 (lv:=lv) (hS4.sb)
  go_wp2_with fail
  refine (begin_c HL.out HM.out hKK b Hb0.out (by have:=Hel2.out;omega) (by first|assumption|exact Ro.op (Ro.bsl _ _)|exact Ro.os aQ) hS5).mono ?_
  rintro ee w5 ⟨v,rfl,rfl,hS6⟩
  clear hS4 hS5 hS3
  go_wp2_with ((with_reducible refine at_store ⟨?_⟩);refine wl_store aQ rFz evD pQ upD nLz kRz rFz ?_;intro wS hS)
  refine ⟨rfl,_,res_cell_tmp rfl aQ rFz pkD Tryz.underlying107 rfl kRz,_,rfl,?_,?_⟩
  ·rw [hfin.out];rfl
  ·rw [hfin.out];exact Sat.sb hS
 ·obtain ⟨s,hl⟩:=HL.out.last hon
  obtain ⟨bk,n,cap,cs,rfl,hb,c0,c1,hB⟩:=seg_block2 hl (hS3.sb)
  have hf:=Seg.Log.fits_on b.length hon hl
  have hs:=HL.out.sizes s (List.mem_of_getLast? hl)
  have hlim:=HL.out.limit
  have hn:=hb.len
  have hln:=Hln.out
  have hn0:(n:Int)<(n:Int)+1:=oQ
  have hwn:IntKind.i64.wrap (n:Int)=(n:Int):=by rw [IntKind.wrap_i64];omega
  have hwz:IntKind.i64.wrap (s.2+(b.length:Int))=s.2+(b.length:Int):=by rw [IntKind.wrap_i64];have:=Hel2.out;omega
  have g1:w3.drew.cell? ⟨p,1,none⟩=some (.int .i64 L.limit):=hB.drew.cellP pkD 1 rfl
  have g2:w3.drew.cell? ⟨p,2,none⟩=some (.slice (some ⟨bk,0,none⟩) (n+1) cap):=hB.drew.cellP pkD 2 rfl
  have g3:w3.drew.cell? ⟨p,3,none⟩=some (.bool true):=hB.drew.cellP pkD 3 (by rw [← hon];rfl)
  have g4:w3.drew.cell? ⟨bk,n * 2+1,none⟩=some (.int .i64 s.2):=hB.drew.cellP pkD _ c1
  have Hl:=uQ hl;have Hb:=uQ hb;have Hs:=uQ hs
  clear hs hlim hn hln hl hb c0 c1 hon hB
  by_cases hfit:s.2+(b.length:Int)≤L.limit
  ·have hfd:decide (s.2+(b.length:Int)≤L.limit)=true:=decide_eq_true hfit
   have hfin:=uQ (A1.out rfl (hf.trans hfd))
   clear hf hfd A1 A2
   go_wp2_with fail
   have hS4:=hS3.drew
   go_region
   clear g1 g2 g3 g4
   have hS5:Sat w0 _ (LogRep p m L::MedRep m M::_):=LogRep.shut2 (lv:= .slice (some ⟨bk,0,none⟩) (n+1) cap) (hS4.sb)
   go_wp2_with fail
   refine (grow_c Hl.out Hs.out HM.out oQ Hln.out b (by have:=Hel2.out;omega) (by first|assumption|exact Ro.op (Ro.bsl _ _)|exact Ro.os aQ) hS5).mono ?_
   rintro ee w5 ⟨v,rfl,rfl,hS6⟩
   clear hS4 hS5 hS3
   go_wp2_with ((with_reducible refine at_store ⟨?_⟩);refine wl_store aQ rFz evD pQ upD nLz kRz rFz ?_;intro wS hS)
   refine ⟨rfl,_,res_cell_tmp rfl aQ rFz pkD Tryz.underlying107 rfl kRz,_,rfl,?_,?_⟩
   ·rw [hfin.out];rfl
   ·rw [hfin.out];exact Sat.sb hS
  ·have hfd:decide (s.2+(b.length:Int)≤L.limit)=false:=decide_eq_false hfit
   have hfin:=uQ (A2.out rfl (hf.trans hfd))
   clear hf hfd A1 A2
   go_wp2_with fail
   have hS4:=hS3.drew
   go_region
   clear g1 g2 g3 g4
   have hS5:Sat w0 _ (LogRep p m L::MedRep m M::_):=LogRep.shut2 (lv:= .slice (some ⟨bk,0,none⟩) (n+1) cap) (hS4.sb)
   go_wp2_with fail
   refine (begin_c HL.out HM.out hKK b Hb0.out (by have:=Hel2.out;omega) (by first|assumption|exact Ro.op (Ro.bsl _ _)|exact Ro.os aQ) hS5).mono ?_
   rintro ee w5 ⟨v,rfl,rfl,hS6⟩
   clear hS4 hS5 hS3
   go_wp2_with ((with_reducible refine at_store ⟨?_⟩);refine wl_store aQ rFz evD pQ upD nLz kRz rFz ?_;intro wS hS)
   refine ⟨rfl,_,res_cell_tmp rfl aQ rFz pkD Tryz.underlying107 rfl kRz,_,rfl,?_,?_⟩
   ·rw [hfin.out];rfl
   ·rw [hfin.out];exact Sat.sb hS
end
end Go.Proofs.YtlimfgdbfadohaaGreatDoor
namespace Go.Seg
def idx (l:List (Int×Int)) (n:Int):Int:=match l.findIdx? (fun s=>s.1==n) with
 |some i=>i
 |none=> -1
theorem find_idx (L:Log) (n:Int):L.find n=idx L.l n:=rfl
theorem idx_at {l:List (Int×Int)}{n:Int}{i:Nat}{s:Int×Int} (hs:l[i]?=some s) (hn:s.1=n) (hp:∀ (j:Nat) (t:Int×Int),j<i→l[j]?=some t→t.1≠n):idx l n=i:=by
 unfold idx
 have:l.findIdx? (fun s=>s.1==n)=some i:=by
  rw [List.findIdx?_eq_some_iff_getElem]
  obtain ⟨h1,h2⟩:=List.getElem?_eq_some_iff.1 hs
  refine ⟨h1,by rw [h2];simpa using hn,fun j hj=>?_⟩
  have:=hp j _ hj (List.getElem?_eq_getElem oQ)
  simpa using this
 rw [this]
theorem idx_no {l:List (Int×Int)}{n:Int} (hp:∀ (j:Nat) (t:Int×Int),j<l.length→l[j]?=some t→t.1≠n):idx l n = -1:=by
 unfold idx
 have:l.findIdx? (fun s=>s.1==n)=none:=by
  rw [List.findIdx?_eq_none_iff]
  intro t ht
  obtain ⟨j,hj,rfl⟩:=List.getElem_of_mem ht
  have:=hp j _ hj (List.getElem?_eq_getElem hj)
  simpa using this
 rw [this]
end Go.Seg
namespace Go.Proofs.YtlimfgdbfadohaaGreatDoor
open Go Go.Sl Go.Med Go.MapKept Go.RowKit
section
variable {w0 w:World}{F R:List HProp}{v bv dv x lv:Value}{q p m K:Nat}{L:Seg.Log}{M:Med}{s:Int×Int}
theorem find1_c (s:Int×Int) (n:Int) (h:Sat w0 w F) (hq:Ro w0 F fun w=>w.cell? ⟨q,0,none⟩=some (.int .i64 n)) :
  Calls Tryz.prog 143 #[.agg #[.int .i64 s.1,.int .i64 s.2],ptr q] w (Rtn fun v w'=>v = .bool (s.1==n)∧Sat w0 w' F):=by
 go_enter Tryz.func143,Tryz.ntmps143
 go_wp2_with (first|(((with_reducible refine at_box ⟨?_⟩);refine wl_box aQ evD evD ?_;intro bB wB hB);have c0:wB.cell? ⟨q,0,none⟩=some (.int .i64 n):=hq _ hB.drop)|((with_reducible refine at_load ⟨?_⟩);refine wl_load1 aQ rFz pkD nLz evD kRz ?_))
 go_ret
 exact ⟨_,rfl,rfl,hB.drop⟩
theorem idxf_c (l:List (Int×Int)) (n:Int) (hln:l.length≤1048576) (h:Sat w0 w (osl 159 2 lv (segw l)::F)) (hq:Ro w0 F fun w=>w.cell? ⟨q,0,none⟩=some (.int .i64 n)) :
  Calls Tryz.prog 142 #[lv,.func (.func 143) #[] #[ptr q]] w (Rtn fun v w'=>v = .int .i64 (Seg.idx l n)∧Sat w0 w' (osl 159 2 lv (segw l)::F)):=by
 rcases h.osl_cases with ⟨rfl,hx,hF⟩|⟨b,n',cap,cs,rfl,hll,hn',hc,hcm,htk,hp⟩
 ·have hl:l=[]:=by
   cases l with
   |nil=>rfl
   |cons a l=>simp [segw]at hx
  subst hl
  go_enter Tryz.func142,Tryz.ntmps142
  go_wp2_with fail
  go_loopg [8] 0 (fun g iq wr=>iq = .int .i64 0∧wr=w)
  case atStart=>exact ⟨rfl,rfl⟩
  case round=>
   obtain ⟨rfl,rfl⟩:=hrel
   go_wp2
   go_ret
   exact ⟨_,rfl,rfl,h⟩
 ·rw [segw_len]at hll
  obtain rfl:n'=l.length:=by omega
  have hcl:∀ (i:Nat) (s:Int×Int),l[i]?=some s→cs[i * 2]?=some (.int .i64 s.1)∧cs[i * 2+1]?=some (.int .i64 s.2):=by
   intro i s hs
   obtain ⟨h1,h2⟩:=segw_at _ _ _ hs
   rw [Nat.mul_comm i 2]
   exact ⟨take_get htk h1,take_get htk h2⟩
  have Hcl:=uQ hcl
  have Hend:=uQ (show ∀ wr,Sat w0 wr (pt b (.cells cs 159 (0,0))::F)→Sat w0 wr (osl 159 2 (.slice (some ⟨b,0,none⟩) l.length cap) (segw l)::F) from fun wr hS=>Sat.osl_of_pt hS (by rw [segw_len];omega) hn' hc hcm htk)
  have Hq:=uQ hq
  clear hcl hn' hc hcm htk h hq hll
  go_enter Tryz.func142,Tryz.ntmps142
  go_wp2_with fail
  go_loopg [8] l.length (fun g iq wr=>∃ i:Nat,g=l.length - i∧i≤l.length∧iq = .int .i64 i∧Sat w0 wr (pt b (.cells cs 159 (0,0))::F)∧Hid (∀ (j:Nat) (t:Int×Int),j<i→l[j]?=some t→t.1≠n))
  case atStart=>exact ⟨0,rfl,Nat.zero_le _,rfl,hp,uQ fun j t hj=>absurd hj (Nat.not_lt_zero j)⟩
  case round=>
   obtain ⟨i,rfl,hi,rfl,hS,Hp⟩:=hrel
   clear hp
   by_cases hlt:i<l.length
   ·obtain ⟨s,hs⟩:∃ s,l[i]?=some s:=⟨_,List.getElem?_eq_getElem hlt⟩
    obtain ⟨d0,d1⟩:=Hcl.out i s hs
    have Hs:=uQ hs;have Hd0:=uQ d0;have Hd1:=uQ d1;have Hlt:=uQ hlt
    have hic:(i:Int)<(l.length:Int):=oQ
    have hwi:=iwQ (i:=i)
    clear hs d0 d1 hlt
    have hfn:=find1_c (q:=q) s n hS (Ro.os Hq.out)
    go_wp2_with ((with_reducible refine at_load ⟨?_⟩);refine wl_loadN (b:=b) (o:=i * 2) [.int .i64 s.1,.int .i64 s.2] aQ rFz pkD (fun j v hj=>by
     rcases j with _|_|j
     ·cases hj;exact Hd0.out
     ·cases hj;exact Hd1.out
     ·simp at hj) Tryz.underlying159 rfl kRz ?_)
    refine hfn.mono ?_
    rintro e w2 ⟨v,rfl,rfl,hS2⟩
    clear hfn hS
    by_cases hsn:s.1=n
    ·have hsb:(s.1==n)=true:=by simpa using hsn
     have Hfin:=uQ (Seg.idx_at Hs.out hsn Hp.out)
     clear hsn
     go_wp2
     go_ret
     exact ⟨.int .i64 i,rfl,by rw [Hfin.out],Hend.out _ hS2⟩
    ·have hsb:(s.1==n)=false:=by simpa using hsn
     have Hp2:=uQ (show ∀ (j:Nat) (t:Int×Int),j<i+1→l[j]?=some t→t.1≠n by
      intro j t hj ht
      by_cases hji:j<i
      ·exact Hp.out j t hji ht
      ·obtain rfl:j=i:=by omega
       rw [Hs.out]at ht;cases ht;exact hsn)
     clear hsn Hp
     go_wp2
     go_roundg (l.length - (i+1))
     case measure=>have:=Hlt.out;omega
     case rel=>exact ⟨i+1,rfl,Nat.succ_le_of_lt Hlt.out,by first|rfl|go_num,hS2,Hp2⟩
   ·obtain rfl:i=l.length:=by omega
    have hic:¬ (l.length:Int)<(l.length:Int):=oQ
    have Hfin:=uQ (Seg.idx_no Hp.out)
    clear hi hlt Hp
    go_wp2
    go_ret
    exact ⟨.int .i64 (-1),rfl,by rw [Hfin.out],Hend.out _ hS⟩
theorem lfind_c (hL:L.Ok) (n:Int) (h:Sat w0 w (LogRep p m L::F)) :
  Calls Tryz.prog 97 #[ptr p,.int .i64 n] w (Rtn fun v w'=>v = .int .i64 (L.find n)∧Sat w0 w' (LogRep p m L::F)):=by
 obtain ⟨lv,hR⟩:=LogRep.open2 h
 clear h
 have Hln:=uQ hL.len
 rw [Seg.find_idx]
 clear hL
 go_enter Tryz.func97,Tryz.ntmps97
 go_wp2_with ((with_reducible refine at_box ⟨?_⟩);refine wl_box aQ evD evD ?_;intro bB wB hB)
 refine (ok_c (Sat.pk aQ)).mono ?_
 rintro e w2 ⟨v,rfl,rfl,rfl⟩
 clear hR
 go_wp2_with ((with_reducible refine at_load ⟨?_⟩);refine wl_load1 aQ rFz pkD nLz evD kRz ?_)
 refine (idxf_c (q:=bB) (lv:=lv) L.l n Hln.out (Sat.pk aQ) (fun w hw=>hw.cellP pkD 0 rfl)).mono ?_
 rintro e w3 ⟨v,rfl,rfl,hS3⟩
 clear hB
 go_wp2
 go_ret
 exact ⟨_,rfl,rfl,LogRep.shut2 (lv:=lv) (Sat.sb hS3)⟩
theorem lsync_c (hM:M.Ok K) (h:Sat w0 w (LogRep p m L::MedRep m M::F)) :
  Calls Tryz.prog 80 #[ptr p] w (Rtn fun v w'=>v=errno M.syncDir.2∧Sat w0 w' (LogRep p m L::MedRep m M.syncDir.1::F)):=by
 obtain ⟨lv,hR⟩:=LogRep.open2 h
 clear h
 go_enter Tryz.func80,Tryz.ntmps80
 go_wp2_with fail
 refine (ok_c (Sat.pk aQ)).mono ?_
 rintro e w2 ⟨v,rfl,rfl,rfl⟩
 go_wp2_with ((with_reducible refine at_load ⟨?_⟩);refine wl_load1 aQ rFz pkD nLz evD kRz ?_)
 refine (syncDir_c hM (Sat.pk aQ)).mono ?_
 rintro e w3 ⟨v,rfl,rfl,hS3⟩
 go_wp2
 go_ret
 exact ⟨_,rfl,rfl,LogRep.shut2 (lv:=lv) (Sat.sb hS3)⟩
theorem find_neg (n:Int):(L.at n=none∧L.find n = -1)∨∃ i,L.at n=some i∧L.find n=i:=by
 unfold Seg.Log.find
 cases L.at n with
 |none=>exact .inl ⟨rfl,rfl⟩
 |some i=>exact .inr ⟨i,rfl,rfl⟩
set_option maxRecDepth 20000 in
theorem lbytes_c (hL:L.Ok) (hM:M.Ok K) (n:Int) (h:Sat w0 w (LogRep p m L::MedRep m M::F)) :
  Calls Tryz.prog 122 #[ptr p,.int .i64 n] w (Rtn fun v w'=>∃ bv,v = .tuple #[bv,errno (L.bytes M n).2]∧Sat w0 w' (bsl bv (L.bytes M n).1::LogRep p m L::MedRep m M::F)):=by
 obtain ⟨lv,hR⟩:=LogRep.open2 h
 have hok:=ok_c hR
 have hf:=lfind_c hL n h
 rcases find_neg (L:=L) n with ⟨ha,hb⟩|⟨i,ha,hb⟩
 ·have Hfin:=uQ (show L.bytes M n=([],9) by unfold Seg.Log.bytes;rw [ha])
  rw [hb]at hf
  clear ha hb hL h hR
  go_enter Tryz.func122,Tryz.ntmps122
  go_wp2_with fail
  refine hok.mono ?_
  rintro e w2 ⟨v,rfl,rfl,rfl⟩
  clear hok
  go_wp2_with fail
  refine hf.mono ?_
  rintro e w2 ⟨v,rfl,rfl,hS2⟩
  clear hf
  go_wp2
  go_ret2
  rw [Hfin.out]
  exact ⟨_,rfl,.slice none 0 0,rfl,Sat.osl_nil.2 hS2⟩
 ·rw [hb]at hf
  have Hfin:=uQ (show L.bytes M n=M.all (Seg.name n) by unfold Seg.Log.bytes;rw [ha])
  have hi0:(0:Int)≤(i:Int):=oQ
  have hd:decide ((i:Int)<0)=false:=decide_eq_false oQ
  clear ha hb hL h hR lv
  go_enter Tryz.func122,Tryz.ntmps122
  go_wp2_with fail
  refine hok.mono ?_
  rintro e w2 ⟨v,rfl,rfl,rfl⟩
  clear hok
  go_wp2_with fail
  refine hf.mono ?_
  rintro e w2 ⟨v,rfl,rfl,hS2⟩
  clear hf
  obtain ⟨lv,hR⟩:=LogRep.open2 hS2
  clear hS2
  go_wp2_with fail
  refine wpL_begin [6,7,8,9,10] (fun w'=>w'.cell? ⟨p,0,none⟩=some (ptr m)) kRz ?_
  have hG:w2.drew.cell? ⟨p,0,none⟩=some (ptr m):=hR.drew.cellP pkD 0 rfl
  refine rP 0 ?_ (y:=mvQ)
  refine rP 1 ?_ (y:=nlQ)
  refine rP 2 ?_ (y:=flQ)
  refine rt 3 (h:=?_)
  refine rP 4 ?_ (y:=mvQ)
  clear hG
  refine rg_eff 5 evD kRz (fun K hK=>?_)
  (refine eff_call1 kRz evD ?_)
  refine (sname_c n hR.drew).mono ?_
  rintro e w3 ⟨v,rfl,rfl,hS3⟩
  refine hK _ _ (.inr (.inl (hS3.cellP pkD 0 rfl))) ?_
  clear hK K hR
  refine rg_eff 6 evD kRz (fun K hK=>?_)
  (refine eff_call2 kRz evD evD ?_)
  refine (all_c hM (Sat.pk aQ) _).mono ?_
  rintro e w4 ⟨v,rfl,bv,rfl,hS4⟩
  refine hK _ _ (.inl rfl) ?_
  clear hK K hS3
  refine rP 7 ?_ (y:=(yl_extract evD rnD))
  refine rP 8 ?_ (y:=(yl_extract evD rnD))
  refine rP 9 ?_ (y:=asQ)
  refine rP 10 ?_ (y:=asQ)
  refine wpL_done kRz ?_
  go_wp2
  go_ret2
  rw [Hfin.out]
  exact ⟨_,rfl,bv,rfl,Sat.sub (LogRep.shut2 (lv:=lv) (hS4.sb)) sbD⟩
end
end Go.Proofs.YtlimfgdbfadohaaGreatDoor
namespace Go.Seg
def Log.segs (L:Log):List Int:=L.l.map (·.1)
end Go.Seg
namespace Go.Proofs.YtlimfgdbfadohaaGreatDoor
open Go Go.Sl Go.Med Go.MapKept Go.RowKit
theorem zSeg:zeroB Tryz.prog 159=some (.agg #[.int .i64 0,.int .i64 0]):=by kernel_rfl
section
variable {w0 w:World}{F R:List HProp}{v bv dv x lv:Value}{q p m K:Nat}{L:Seg.Log}{M:Med}{s:Int×Int}
theorem ints_app (l k:List Int):ints (l++k)=ints l++ints k:=by unfold ints;rw [List.map_append]
theorem ints_length (l:List Int):(ints l).length=l.length:=by unfold ints;rw [List.length_map]
theorem segs_open (hln:L.l.length≤1048576) (h:Sat w0 w (logPt p m L lv::osl 159 2 lv (segw L.l)::F)) :
  (L.l=[]∧lv = .slice none 0 0)∨∃ b cap cs,lv = .slice (some ⟨b,0,none⟩) L.l.length cap∧(∀ (i:Nat) (s:Int×Int),L.l[i]?=some s→cs[i * 2]?=some (.int .i64 s.1)∧cs[i * 2+1]?=some (.int .i64 s.2)) ∧
   Sat w0 w (pt b (.cells cs 159 (0,0))::logPt p m L lv::F)∧∀ w1 G,Sat w0 w1 (pt b (.cells cs 159 (0,0))::G)→Sat w0 w1 (osl 159 2 lv (segw L.l)::G):=by
 have h':=h.pick1
 rcases h'.osl_cases with ⟨rfl,hx,hF⟩|⟨b,n',cap,cs,rfl,hll,hn',hc,hcm,htk,hp⟩
 ·left
  refine ⟨?_,rfl⟩
  cases hl:L.l with
  |nil=>rfl
  |cons a l=>rw [hl]at hx;simp [segw]at hx
 ·right
  rw [segw_len]at hll
  obtain rfl:n'=L.l.length:=by omega
  refine ⟨b,cap,cs,rfl,?_,hp,fun w1 G hS=>Sat.osl_of_pt hS (by rw [segw_len];omega) hn' hc hcm htk⟩
  intro i s hs
  obtain ⟨h1,h2⟩:=segw_at _ _ _ hs
  rw [Nat.mul_comm i 2]
  exact ⟨take_get htk h1,take_get htk h2⟩
set_option maxRecDepth 20000 in
theorem lsegs_c (hL:L.Ok) (h:Sat w0 w (LogRep p m L::F)) :
  Calls Tryz.prog 109 #[ptr p] w (Rtn fun v w'=>Sat w0 w' (osl 3 1 v (ints L.segs)::LogRep p m L::F)):=by
 obtain ⟨lv,hR⟩:=LogRep.open2 h
 clear h
 have hok:=ok_c hR
 rcases segs_open hL.len hR with ⟨hnil,rfl⟩|⟨b,cap,cs,rfl,hcl,hp,hend⟩
 ·have Hfin:=uQ (show L.segs=[] by unfold Seg.Log.segs;rw [hnil];rfl)
  clear hnil hL
  go_enter Tryz.func109,Tryz.ntmps109
  go_wp2_with fail
  refine hok.mono ?_
  rintro e w2 ⟨v,rfl,rfl,rfl⟩
  clear hok
  go_wp2_with ((with_reducible refine at_load ⟨?_⟩);refine wl_load1 aQ rFz pkD nLz evD kRz ?_)
  go_loopg [14,3] 0 (fun g iq ov wr=>iq = .int .i64 0∧ov = .slice none 0 0∧wr=w)
  case atStart=>exact ⟨rfl,rfl,rfl⟩
  case round=>
   obtain ⟨rfl,rfl,rfl⟩:=hrel
   go_wp2
   go_ret
   rw [Hfin.out]
   exact ⟨_,rfl,Sat.osl_nil.2 (LogRep.shut2 hR)⟩
 ·have Hcl:=uQ hcl
  have Hend:=uQ hend
  have Hln:=uQ hL.len
  clear hcl hend hL hR
  go_enter Tryz.func109,Tryz.ntmps109
  go_wp2_with fail
  refine hok.mono ?_
  rintro e w2 ⟨v,rfl,rfl,rfl⟩
  clear hok
  go_wp2_with ((with_reducible refine at_load ⟨?_⟩);refine wl_load1 aQ rFz pkD nLz evD kRz ?_)
  go_loopg [14,3] L.l.length (fun g iq ov wr=>∃ i:Nat,g=L.l.length - i∧i≤L.l.length∧iq = .int .i64 i ∧
   Sat w0 wr (osl 3 1 ov (ints ((L.l.take i).map (·.1)))::pt b (.cells cs 159 (0,0))::logPt p m L (.slice (some ⟨b,0,none⟩) L.l.length cap)::F))
  case atStart=>exact ⟨0,rfl,Nat.zero_le _,rfl,Sat.osl_nil.2 hp⟩
  case round=>
   obtain ⟨i,rfl,hi,rfl,hS⟩:=hrel
   clear hp
   by_cases hlt:i<L.l.length
   ·obtain ⟨s,hs⟩:∃ s,L.l[i]?=some s:=⟨_,List.getElem?_eq_getElem hlt⟩
    have Htk:=uQ (show ints ((L.l.take i).map (·.1))++[.int .i64 s.1]=ints ((L.l.take (i+1)).map (·.1)) by
     rw [List.take_add_one,hs,List.map_append,ints_app];rfl)
    have hlen:(ints ((L.l.take i).map (·.1))).length≤2147483648:=by
     rw [ints_length,List.length_map,List.length_take];have:=Hln.out;omega
    obtain ⟨d0,d1⟩:=Hcl.out i s hs
    have Hd0:=uQ d0;have Hd1:=uQ d1;have Hlt:=uQ hlt
    have hic:(i:Int)<(L.l.length:Int):=oQ
    have hwi:IntKind.i64.wrap ((i:Int)+1)=(i:Int)+1:=IntWalk.i64_in _ (by have:=Hln.out;omega)
    clear hs d0 d1 hlt
    go_wp2_with (first
     |((with_reducible refine at_load ⟨?_⟩);refine wl_loadN (b:=b) (o:=i * 2) [.int .i64 s.1,.int .i64 s.2] aQ rFz pkD (fun j v hj=>by
       rcases j with _|_|j
       ·cases hj;exact Hd0.out
       ·cases hj;exact Hd1.out
       ·simp at hj) Tryz.underlying159 rfl kRz ?_)
     |(refine wl_alloc zSeg aQ rfl ?_;intro q3 w3 hS3)
     |((with_reducible refine at_store ⟨?_⟩);refine wl_store aQ rFz evD pQ upD nLz kRz rFz ?_;intro wS hS)|((with_reducible refine at_load ⟨?_⟩);refine wl_load1 aQ rFz pkD nLz evD kRz ?_)|((with_reducible refine at_build1 ⟨?_⟩);refine wl_build1 (e:=3) (sz:=1) (by':=8) kRz aQ evD evD rFz nLz ?_;intro bN wN hN)|((with_reducible refine at_append ⟨?_⟩);refine wl_app 3 1 8 kRz aQ rFz rFz pkD pkD rFz nLz rFz aQ nLz nLz evD ?_;intro bA nA cA wA hA))
    go_roundg (L.l.length - (i+1))
    case measure=>have:=Hlt.out;omega
    case rel=>
     refine ⟨i+1,rfl,Nat.succ_le_of_lt Hlt.out,by first|rfl|go_num,?_⟩
     rw [Htk.out]at hA
     exact Sat.sb hA
   ·obtain rfl:i=L.l.length:=by omega
    have hic:¬ (L.l.length:Int)<(L.l.length:Int):=oQ
    rw [List.take_length]at hS
    clear hi hlt
    go_wp2
    go_ret
    refine ⟨_,rfl,?_⟩
    have h7:=Hend.out _ _ (hS.pk)
    exact Sat.sub (LogRep.shut2 (lv:= .slice (some ⟨b,0,none⟩) L.l.length cap) (Sat.sb h7)) sbD
end
section
variable {w0 w:World}{F:List HProp}{av bv v:Value}
section
variable {L R:List HProp}{b o:Nat}{ops:Array Oper}{rest:List Oper}{a:Act}{Q:Exit→Act→World→Prop}{dst:Option Tmp}{t ty T:TypeId}{pos:String}{after:Array Edge}{P:Program}{x:Operand}{cs:Array Value}{g:Nat×Bool}
theorem at_loadG (h:Stop (wpList P ops Q (⟨dst,.load ty x,t,pos,after,some g⟩::rest) a w)):wpList P ops Q (⟨dst,.load ty x,t,pos,after,some g⟩::rest) a w:=h.out
theorem wl_loadGm (hw:Region.wanted ⟨dst,.load ty x,t,pos,after,some g⟩ (yielded ops a.tmps)=true) (hx:a.eval x = .pointer (some ⟨b,o,none⟩)) (cl:List Value) (d:TypeDesc) (hc:w.rangeAt b o cl)
  (hu:P.underlying ty=some d) (hd:d.isRow=true) (hi:(P.info? ty).map (·.size)=some cl.length)
  (h:wpList P ops Q rest (a.put dst (.agg cl.toArray)) w):wpList P ops Q (⟨dst,.load ty x,t,pos,after,some g⟩::rest) a w:=
 wpList_step fun _ hK=>by
  rw [if_pos hw]
  exact wp_load_mid ty x rfl b o hx cl d hc hu hd hi (hK _ _ h)
end
end
def penc (p:Seg.Plc):List Value:=[.int .i64 p.seg,.int .i64 p.at_,.int .i64 p.size]
def aenc (a:Rep.Abt):List Value:=[.int .i64 a.tag,.int .i64 a.place.seg,.int .i64 a.place.at_,.int .i64 a.place.size,.int .i64 a.first]
abbrev zwA:Rep.Abt:=⟨0,Seg.Plc.zero,0⟩
abbrev zwL:Seg.Plc:=Seg.Plc.zero
theorem penc_len (p:Seg.Plc):(penc p).length=3:=rfl
theorem aenc_len (a:Rep.Abt):(aenc a).length=5:=rfl
theorem penc_ones (p:Seg.Plc):(penc p).all (·.oneCell')=true:=rfl
theorem aenc_ones (a:Rep.Abt):(aenc a).all (·.oneCell')=true:=rfl
def slotL {V:Type} (enc:V→List Value) (x:Tab.Slot V):List Value:= .int .i64 x.st::(bys x.key++enc x.val)
abbrev tbPt (p:Nat) (T:TypeId) (sv:Value) (n g:Nat):HProp:=pt p (.cells #[sv,.int .i64 n,.int .i64 g] T (0,0))
theorem slotL_len {V:Type} (enc:V→List Value) (x:Tab.Slot V) (hk:x.key.length=32) (m:Nat) (he:(enc x.val).length=m):(slotL enc x).length=33+m:=by
 unfold slotL
 rw [List.length_cons,List.length_append,bys_len,hk,he];omega
theorem bys_ones (b:Frm.Bs):(bys b).all (·.oneCell')=true:=by
 rw [List.all_eq_true]
 intro v hv
 unfold bys at hv
 obtain ⟨c,_,rfl⟩:=List.mem_map.1 hv
 rfl
theorem slotL_ones {V:Type} (enc:V→List Value) (x:Tab.Slot V) (he:(enc x.val).all (·.oneCell')=true):(slotL enc x).all (·.oneCell')=true:=by
 unfold slotL
 rw [List.all_cons,List.all_append,bys_ones,he];rfl
theorem slotL_key {V:Type} (enc:V→List Value) (x:Tab.Slot V){j:Nat}{v:Value} (h:(bys x.key)[j]?=some v):(slotL enc x)[1+j]?=some v:=by
 unfold slotL
 rw [Nat.add_comm,List.getElem?_cons_succ,List.getElem?_append_left (List.getElem?_eq_some_iff.1 h).1];exact h
theorem slotL_val {V:Type} (enc:V→List Value) (x:Tab.Slot V) (hk:x.key.length=32){j:Nat}{v:Value} (h:(enc x.val)[j]?=some v):(slotL enc x)[33+j]?=some v:=by
 unfold slotL
 rw [show 33+j=32+j+1 by omega,List.getElem?_cons_succ,List.getElem?_append_right (by rw [bys_len,hk];omega),bys_len,hk,Nat.add_sub_cancel_left];exact h
theorem zSlotA:zeroB Tryz.prog 300=some (.agg (slotL aenc ⟨0,Frm.zero32,⟨0,Seg.Plc.zero,0⟩⟩).toArray):=by kernel_rfl
theorem zSlotL:zeroB Tryz.prog 170=some (.agg (slotL penc ⟨0,Frm.zero32,Seg.Plc.zero⟩).toArray):=by kernel_rfl
section
variable {w0 w:World}{L R:List HProp}{b:Nat}{T:TypeId}{V:Type}{enc:V→List Value}{x:Tab.Slot V}{l:List Value}
theorem pt_rangeL (h:Sat w0 w (pt b (.cells l.toArray T (0,0))::R)):w.rangeAt b 0 l:=fun j v hj=>by
 have:=h.cellP pick0 j (by rw [List.getElem?_toArray];exact hj)
 rw [Nat.zero_add];exact this
theorem slot_key (h:Sat w0 w (pt b (.cells (slotL enc x).toArray T (0,0))::R)):w.rangeAt b 1 (bys x.key):=fun j v hj=>
 h.cellP pick0 (1+j) (by rw [List.getElem?_toArray];exact slotL_key enc x hj)
theorem slot_val (hk:x.key.length=32) (h:Sat w0 w (pt b (.cells (slotL enc x).toArray T (0,0))::R)):w.rangeAt b 33 (enc x.val):=fun j v hj=>
 h.cellP pick0 (33+j) (by rw [List.getElem?_toArray];exact slotL_val enc x hk hj)
end
end Go.Proofs.YtlimfgdbfadohaaGreatDoor
namespace Go.Tab
open Go.Frm (Bs)
section
variable {V:Type}{x:Slot V}{c:Nat}
theorem good_empty (hc:∃ j,c=2^j∧3≤j) (hk:x.key.length=32) (hx:x.st=0):Good (List.replicate c x):=
 ⟨by rw [List.length_replicate];exact hc,(fun y hy=>by rw [List.eq_of_mem_replicate hy,hx];decide),(fun y hy=>by rw [List.eq_of_mem_replicate hy];exact hk),fun i y hy h1=>by
  rw [List.eq_of_mem_replicate (List.mem_of_getElem? hy),hx]at h1;cases h1⟩
theorem empty_has (hx:x.st=0) (k:Bs) (v:V):¬ Has (List.replicate c x) k v:=by
 rintro ⟨i,y,hy,h1,_⟩
 rw [List.eq_of_mem_replicate (List.mem_of_getElem? hy),hx]at h1;cases h1
theorem empty_fulls (hx:x.st=0):fulls (List.replicate c x)=0:=by unfold fulls;rw [List.countP_replicate,if_neg (by rw [hx];decide)]
theorem empty_used (hx:x.st=0):used (List.replicate c x)=0:=by unfold used;rw [List.countP_replicate,if_neg (by rw [hx];decide)]
theorem new_ok (hk:x.key.length=32) (hx:x.st=0):(⟨List.replicate 8 x,0,0⟩:Tb V).Ok:=
 ⟨good_empty ⟨3,rfl,Nat.le_refl 3⟩ hk hx,(empty_fulls hx).symm,(empty_used hx).symm,by simp,by simp⟩
theorem new_is (hx:x.st=0) (n g:Nat):(⟨List.replicate 8 x,n,g⟩:Tb V).Is (fun _=>none):=fun k v=>⟨fun h=>absurd h (empty_has hx k v),fun h=>by cases h⟩
theorem Tb.Is.some {t:Tb V}{m:Bs→Option V} (hm:t.Is m) (ho:t.Ok){k:Bs}{d:Nat} (he:Ends t.slots k d){y:Slot V} (hy:t.slots[pos k t.slots.length d]?=some y):(y.st=1→m k=some y.val)∧(y.st≠1→m k=none):=by
 refine ⟨fun h1=>(hm k _).1 (ends_full he hy h1).2,fun h1=>?_⟩
 cases hmk:m k with
 |none=>rfl
 |some v=>exact absurd ((hm k v).2 hmk) ((ends_empty ho.good he hy h1).2 v)
end
end Go.Tab
namespace Go.Proofs.YtlimfgdbfadohaaGreatDoor
open Go Go.Sl Go.Med Go.MapKept Go.RowKit
theorem made_rows (z:Array Value) (h:0<z.size):∀ n,(madeCells z (n * z.size)).toList=(List.replicate n z.toList).flatten
 |0=>by simp [madeCells]
 |n+1=>by
  have ih:=made_rows z h n
  have hl:(madeCells z ((n+1) * z.size)).toList=(List.range ((n+1) * z.size)).map (z[· % z.size]!):=by unfold madeCells;simp
  have hl0:(madeCells z (n * z.size)).toList=(List.range (n * z.size)).map (z[· % z.size]!):=by unfold madeCells;simp
  rw [hl0]at ih
  rw [hl,Nat.succ_mul,List.range_add,List.map_append,ih,List.replicate_succ',List.flatten_append]
  congr 1
  rw [List.map_map]
  simp only [List.flatten_cons,List.flatten_nil,List.append_nil]
  refine List.ext_getElem (by simp) fun i h1 h2=>?_
  have hi:i<z.size:=by simpa using h1
  simp only [List.getElem_map,List.getElem_range,Function.comp]
  rw [Nat.mul_comm n,Nat.mul_add_mod,Nat.mod_eq_of_lt hi,getElem!_pos z i hi,Array.getElem_toList]
section
variable {P:Program}{w0 w:World}{L L' R:List HProp}{b o:Nat}{ops:Array Oper}{rest:List Oper}{a:Act}{Q:Exit→Act→World→Prop}{dst:Option Tmp}{t ty T e sz by' n c:Nat}{pos:String}{after:Array Edge}{x y:Operand}{v:Value}{zs:List Value}
theorem at_make (h:Stop (wpList P ops Q (⟨dst,.makeSlice ty x y,t,pos,after,none⟩::rest) a w)):wpList P ops Q (⟨dst,.makeSlice ty x y,t,pos,after,none⟩::rest) a w:=h.out
theorem wl_makeN (hb:appB P ty e sz by'=true) (hz:zeroB P e=some (.agg zs.toArray)) (hs:Sat w0 w L) (hx:a.eval x = .int .i64 n) (hy:a.eval y = .int .i64 n) (hle:by' * n≤281474976710656) (hm:n≤9223372036854775807)
  (hK:∀ b w',Sat w0 w' (osl e sz (.slice (some ⟨b,0,none⟩) n n) (List.replicate n zs).flatten::L)→wpList P ops Q rest (a.put dst (.slice (some ⟨b,0,none⟩) n n)) w') :
  wpList P ops Q (⟨dst,.makeSlice ty x y,t,pos,after,none⟩::rest) a w:=by
 obtain ⟨hu,i,z,hi,hz1,h1,h2,h3,h4⟩:=appB_spec hb
 have hzz:z = .agg zs.toArray:=by
  unfold zeroB at hz
  rw [hi]at hz
  simp only [Option.bind_some]at hz
  rw [hz1]at hz
  exact Option.some.inj hz
 subst hzz
 have hzl:zs.length=sz:=by rw [← List.size_toArray];exact h3
 have hr:=run_make (P:=P) w ty e i (.agg zs.toArray) hu hi hz1 .i64 .i64 n n oQ (Int.le_refl _) (by rw [h2,← Int.natCast_mul];omega) oQ
 simp only [Int.toNat_natCast]at hr
 have hS:=hs.alloc (.cells (madeCells (Value.agg zs.toArray).cells (n * i.size)) e)
 refine wpList_plain rfl fun _ hK'=>?_
 unfold Oper.wp execOp
 simp only [hx,hy,hr,Sem.run_bind,Sem.run_pure,Result.andThen_ok]
 refine hK' _ _ (hK _ _ ?_)
 have hm:=made_rows zs.toArray (by rw [List.size_toArray];omega) n
 rw [List.size_toArray,hzl]at hm
 refine Sat.osl_of_pt hS (by rw [List.length_flatten,List.map_replicate,List.sum_replicate_nat,hzl]) (Nat.le_refl _) (by rw [size_madeCells,h1];exact Nat.le_refl _) (by unfold maxLen;omega) ?_
 rw [h1]
 show (madeCells zs.toArray (n * sz)).toList.take (n * sz)=_
 rw [hm,List.take_of_length_le (by rw [List.length_flatten,List.map_replicate,List.sum_replicate_nat,hzl];exact Nat.le_refl _)]
end
end Go.Proofs.YtlimfgdbfadohaaGreatDoor
namespace Go.Tab
open Go.Frm (Bs)
structure Renewed {V:Type} (t:Tb V) (s':List (Slot V)) (N:Nat):Prop where
 good:Good s'
 has:∀ k v,Has s' k v↔Has t.slots k v
 nf:fulls s'=t.n
 nu:used s'=t.n
 lo:2 * N≤s'.length
 lo8:8≤s'.length
 hi:s'.length=8∨s'.length<4 * N
theorem Renewed.ok {V:Type}{t:Tb V}{s':List (Slot V)} (h:Renewed t s' (t.n+1)):(⟨s',t.n,0⟩:Tb V).Ok:=
 ⟨h.good,h.nf.symm,by rw [h.nu];rfl,by have:=h.lo;simp only;omega,by have:=h.hi;simp only;omega⟩
theorem Renewed.is {V:Type}{t:Tb V}{s':List (Slot V)}{N:Nat} (h:Renewed t s' N){m:Bs→Option V} (hm:t.Is m) (n g:Nat):(⟨s',n,g⟩:Tb V).Is m:=fun k v=>(h.has k v).trans (hm k v)
theorem half_start {V:Type}{old:List (Slot V)}{x:Slot V}{c:Nat} (hc:∃ j,c=2^j∧3≤j) (hk:x.key.length=32) (hx:x.st=0):Half old (List.replicate c x) 0:=
 ⟨good_empty hc hk hx,fun k v=>⟨fun h=>absurd h (empty_has hx k v),fun h=>by obtain ⟨i,y,hy,_⟩:=h;simp at hy⟩,by rw [empty_fulls hx];rfl,by rw [empty_used hx];rfl⟩
end Go.Tab
namespace Go.Proofs.YtlimfgdbfadohaaGreatDoor
open Go Go.Sl Go.Med Go.MapKept Go.RowKit
theorem putL_app2 (A B vs:List Value) (i:Nat) (h:i+vs.length≤A.length):putL (A++B) i vs=putL A i vs++B:=by
 unfold putL
 rw [List.take_append_of_le_length oQ,List.drop_append_of_le_length oQ]
 simp only [List.append_assoc]
theorem rows_part {α:Type}{f:α→List Value}{k:Nat}:∀ {l:List α}{i o:Nat}{x x':α}{vs:List Value},(∀ x∈l,(f x).length=k)→l[i]?=some x→f x'=putL (f x) o vs→o+vs.length≤k→(l.set i x').flatMap f=putL (l.flatMap f) (i * k+o) vs
 |[],_,_,_,_,_,_,h,_,_=>by cases h
 |y::l,0,o,x,x',vs,hk,h,hx,ho=>by
  obtain rfl:y=x:=by simpa using h
  rw [List.set_cons_zero,List.flatMap_cons,List.flatMap_cons,Nat.zero_mul,Nat.zero_add,hx,putL_app2 _ _ _ _ (by rw [hk y (.head _)];exact ho)]
 |y::l,i+1,o,x,x',vs,hk,h,hx,ho=>by
  have h0:=hk y (.head _)
  rw [List.set_cons_succ,List.flatMap_cons,List.flatMap_cons,rows_part (fun z hz=>hk z (.tail _ hz)) (by simpa using h) hx ho,show (i+1) * k+o=(f y).length+(i * k+o) by rw [h0,Nat.succ_mul];omega,putL_app]
theorem slotL_setv {V:Type} (enc:V→List Value) (x:Tab.Slot V) (v:V) (hk:x.key.length=32) (he:(enc v).length=(enc x.val).length):slotL enc ⟨x.st,x.key,v⟩=putL (slotL enc x) 33 (enc v):=by
 have e:slotL enc x=(.int .i64 x.st::bys x.key)++enc x.val:=rfl
 have hl:(Value.int .i64 x.st::bys x.key).length=33:=by rw [List.length_cons,bys_len,hk]
 rw [e,show 33=(Value.int .i64 x.st::bys x.key).length+0 by rw [hl],putL_app]
 unfold putL
 rw [List.take_zero,List.nil_append,Nat.zero_add,he,List.drop_length,List.append_nil];rfl
section
variable {w0 w:World}{R:List HProp}{T sz n c:Nat}{a:Option Addr}{xs:List Value}
theorem osl_zero (h:Sat w0 w (osl T sz (.slice a n c) xs::R)) (hx:0<xs.length):∃ b,a=some ⟨b,0,none⟩:=by
 rcases Sat.osl_cases h with ⟨_,rfl,_⟩|⟨b,n',cap',cs,he,_⟩
 ·simp at hx
 ·cases he;exact ⟨b,rfl⟩
end
theorem wraps4 (n g l:Nat) (h:n+g≤134217728) (hl:l≤1073741824) :
  IntKind.i64.wrap ((n:Int)+(g:Int))=(n:Int)+(g:Int)∧IntKind.i64.wrap ((n:Int)+(g:Int)+1)=(n:Int)+(g:Int)+1∧IntKind.i64.wrap (4 * ((n:Int)+(g:Int)+1))=4 * ((n:Int)+(g:Int)+1)∧IntKind.i64.wrap (3 * (l:Int))=3 * (l:Int) ∧
  wrap64 ((n:Int)+(g:Int))=(n:Int)+(g:Int)∧wrap64 ((n:Int)+(g:Int)+1)=(n:Int)+(g:Int)+1∧wrap64 (4 * ((n:Int)+(g:Int)+1))=4 * ((n:Int)+(g:Int)+1)∧wrap64 (3 * (l:Int))=3 * (l:Int)∧IntKind.i64.wrap ((n:Int)+1)=(n:Int)+1:=
 ⟨IntWalk.i64_in _ oQ,IntWalk.i64_in _ oQ,IntWalk.i64_in _ oQ,IntWalk.i64_in _ oQ,IntWalk.wrap64_in _ oQ,IntWalk.wrap64_in _ oQ,IntWalk.wrap64_in _ oQ,IntWalk.wrap64_in _ oQ,IntWalk.i64_in _ oQ⟩
theorem plSlotA:placesB Tryz.prog 300=some [(0,1),(1,32),(33,5)]:=by kernel_rfl
theorem plSlotL:placesB Tryz.prog 170=some [(0,1),(1,32),(33,3)]:=by kernel_rfl
theorem putL_all {xs vs:List Value} (h:vs.length=xs.length):putL xs 0 vs=vs:=by
 unfold putL
 rw [List.take_zero,List.nil_append,Nat.zero_add,h,List.drop_length,List.append_nil]
theorem puts_putL (cs:Array Value) (o:Nat) (vs:List Value) (h:o+vs.length≤cs.size):(putsAt cs o vs).toList=putL cs.toList o vs:=by
 rw [putsAt_list _ _ _ h,List.append_assoc];rfl
theorem put_slot {V:Type} (enc:V→List Value) (z:Tab.Slot V) (k:Frm.Bs) (v:V) (hz:z.key.length=32) (hk:k.length=32) (he:(enc v).length=(enc z.val).length) (n:Nat) (hn:(enc z.val).length=n) :
  putParts [(0,1),(1,32),(33,n)] (slotL enc z).toArray [(0,.int .i64 1),(1,.agg (bys k).toArray),(2,.agg (enc v).toArray)]=(slotL enc ⟨1,k,v⟩).toArray:=by
 have hzl:(slotL enc z).length=33+n:=by rw [slotL_len enc z hz _ hn]
 show putsAt (putsAt (putsAt (slotL enc z).toArray 0 [.int .i64 1]) 1 (bys k)) 33 (enc v)=_
 apply putsAt_eq
 rw [puts_putL _ _ _ (by rw [putsAt_size,putsAt_size,List.size_toArray,hzl];omega),puts_putL _ _ _ (by rw [putsAt_size,List.size_toArray,hzl,bys_len,hk];omega),puts_putL _ _ _ (by rw [List.size_toArray,hzl,List.length_singleton];omega)]
 have e:slotL enc z=[.int .i64 z.st]++(bys z.key++enc z.val):=rfl
 have e1:putL (slotL enc z) 0 [.int .i64 1]=[.int .i64 1]++(bys z.key++enc z.val):=by
  rw [e,putL_app2 _ _ _ _ (Nat.le_refl 1)];rfl
 have e2:putL ([Value.int .i64 1]++(bys z.key++enc z.val)) 1 (bys k)=[Value.int .i64 1]++(bys k++enc z.val):=by
  have h0:=putL_app [Value.int .i64 1] (bys z.key++enc z.val) (bys k) 0
  have h1:putL (bys z.key++enc z.val) 0 (bys k)=bys k++enc z.val:=by
   rw [putL_app2 _ _ _ _ (by rw [bys_len,bys_len,hk,hz];omega),putL_all (by rw [bys_len,bys_len,hk,hz])]
  rw [h1]at h0
  exact h0
 have e3:putL ([Value.int .i64 1]++(bys k++enc z.val)) 33 (enc v)=[Value.int .i64 1]++(bys k++enc v):=by
  have h0:=putL_app ([Value.int .i64 1]++bys k) (enc z.val) (enc v) 0
  rw [putL_all he]at h0
  have hl:([Value.int .i64 1]++bys k).length+0=33:=by rw [List.length_append,bys_len,hk];rfl
  rw [hl,List.append_assoc,List.append_assoc]at h0
  exact h0
 simp only []
 rw [e1,e2,e3];rfl
end Go.Proofs.YtlimfgdbfadohaaGreatDoor
namespace Go.Tab
open Go.Frm (Bs num)
section
variable {V:Type}{s:List (Slot V)}{x z:Slot V}{k:Bs}{v:V}{d:Nat}
def del (m:Bs→Option V) (k:Bs):Bs→Option V:=fun l=>if l=k then none else m l
end
end Go.Tab
namespace Go.Tab
open Go.Frm (Bs)
theorem bs_tri (a b:Bs):a<b∨a=b∨b<a:=by
 by_cases h1:a<b
 ·exact .inl h1
 ·rcases List.le_iff_lt_or_eq.1 (List.not_lt.1 h1) with h2|h2
  ·exact .inr (.inr h2)
  ·exact .inr (.inl h2.symm)
structure Lists {V:Type} (m:Bs→Option V) (l:List (Bs×V)):Prop where
 rise:l.Pairwise fun a b=>a.1<b.1
 mem:∀ k v,(k,v)∈l↔m k=some v
theorem rise_ext {V:Type}:∀ {l l':List (Bs×V)},l.Pairwise (fun a b=>a.1<b.1)→l'.Pairwise (fun a b=>a.1<b.1)→(∀ p,p∈l↔p∈l')→l=l'
 |[],[],_,_,_=>rfl
 |[],b::l',_,_,h=>by have:=(h b).2 (.head _);cases this
 |a::l,[],_,_,h=>by have:=(h a).1 (.head _);cases this
 |a::l,b::l',h1,h2,h=>by
  obtain ⟨a1,a2⟩:=List.pairwise_cons.1 h1
  obtain ⟨b1,b2⟩:=List.pairwise_cons.1 h2
  have hab:a=b:=by
   rcases List.mem_cons.1 ((h a).1 (.head _)) with e|h3
   ·exact e
   ·rcases List.mem_cons.1 ((h b).2 (.head _)) with e|h4
    ·exact e.symm
    ·exact absurd (List.lt_trans (b1 a h3) (a1 b h4)) (List.lt_irrefl _)
  subst hab
  congr 1
  refine rise_ext a2 b2 fun p=>?_
  have:=h p
  rw [List.mem_cons,List.mem_cons]at this
  constructor
  ·intro hp
   rcases this.1 (.inr hp) with e|h3
   ·subst e;exact absurd (a1 p hp) (List.lt_irrefl _)
   ·exact h3
  ·intro hp
   rcases this.2 (.inr hp) with e|h3
   ·subst e;exact absurd (b1 p hp) (List.lt_irrefl _)
   ·exact h3
theorem Lists.unique {V:Type}{m:Bs→Option V}{l l':List (Bs×V)} (h:Lists m l) (h':Lists m l'):l=l':=
 rise_ext h.rise h'.rise fun p=>by rw [h.mem p.1 p.2,h'.mem p.1 p.2]
def ins {V:Type}:List (Bs×V)→Bs×V→List (Bs×V)
 |[],x=>[x]
 |y::l,x=>if x.1<y.1 then x::y::l else y::ins l x
end Go.Tab
namespace Go.Rep
open Go.Frm (Bs Fnd)
open Go.Seg (Plc)
open Go.Tab
def idx (l:List Row):Nat→List (Bs×Plc)
 |0=>[]
 |i+1=>match l[i]? with
  |none=>idx l i
  |some r=>if cnt l i=true∧rtag r=0 then ins (idx l i) (rkey r,rplc r) else idx l i
def live (l:List Row) (s:Int):Nat→Int
 |0=>0
 |i+1=>match l[i]? with
  |none=>live l s i
  |some r=>if cnt l i=true∧r.1=s then live l s i+r.2.size else live l s i
def liveL (s:Int):List (Bs×Abt)→Int
 |[]=>0
 |p::l=>(if counts p.2=true∧p.2.place.seg=s then p.2.place.size else 0)+liveL s l
def puts (kv:List (Bs×Abt)):List (Bs×Plc):=(kv.filter fun p=>decide (p.2.tag=0)).map fun p=>(p.1,p.2.place)
end Go.Rep
namespace Go.Tab
open Go.Frm (Bs)
theorem cmpB_lt:∀ (a b:Bs),Lib.compareBytes a b<0↔a<b
 |[],[]=>by simp [Lib.compareBytes]
 |[],b::bs=>by simp [Lib.compareBytes]
 |a::l,[]=>by simp [Lib.compareBytes]
 |a::l,b::bs=>by
  rw [List.cons_lt_cons_iff,← cmpB_lt l bs]
  rw [show Lib.compareBytes (a::l) (b::bs)=if a<b then -1 else if b<a then 1 else Lib.compareBytes l bs from rfl]
  by_cases h1:a<b
  ·simp [h1]
  ·rw [if_neg h1]
   by_cases h2:b<a
   ·rw [if_pos h2]
    constructor
    ·intro h;exact absurd h dCz
    ·rintro (h|⟨rfl,_⟩)
     ·exact absurd h h1
     ·exact absurd h2 h1
   ·rw [if_neg h2]
    have:a=b:=by
     have h3:¬ a.toNat<b.toNat:=fun h=>h1 (UInt8.lt_iff_toNat_lt.2 h)
     have h4:¬ b.toNat<a.toNat:=fun h=>h2 (UInt8.lt_iff_toNat_lt.2 h)
     exact UInt8.toNat_inj.1 oQ
    subst this
    constructor
    ·intro h;exact .inr ⟨rfl,h⟩
    ·rintro (h|⟨_,h⟩)
     ·exact absurd h h1
     ·exact h
end Go.Tab
namespace Go.Proofs.YtlimfgdbfadohaaGreatDoor
open Go Go.Sl Go.Med Go.MapKept Go.RowKit
theorem adr_add (b o j:Nat):(⟨b,o,none⟩:Addr).add j=⟨b,o+j,none⟩:=by unfold Addr.add;split <;> simp_all
section
variable {w0 w:World}{F R:List HProp}{v bv av:Value}
theorem run_bytesOf {l:Frm.Bs} (h:rdsl 1 v (bys l) w):(Extern.Bytes.bytesOf v).run Tryz.prog w = .ok ⟨l.toArray⟩ w:=by
 obtain ⟨a,n,c,rfl,hl,hx⟩:=h
 rw [bys_len,Nat.mul_one]at hl
 subst hl
 cases a with
 |none=>
  obtain rfl:l=[]:=by
   cases l with
   |nil=>rfl
   |cons d l=>obtain ⟨b,hb,_⟩:=hx 0 _ rfl;cases hb
  rfl
 |some ad=>
  have:=Lib.run_loadBytesX (P:=Tryz.prog) w (l.map fun c=>(c.toNat:Int)) ad .empty (fun j x hj=>by
   rw [List.getElem?_map]at hj
   obtain ⟨c',hc',rfl⟩:=Option.map_eq_some_iff.1 hj
   have hy:(bys l)[j]?=some (.int .u8 c'.toNat):=by unfold bys;rw [List.getElem?_map,hc'];rfl
   obtain ⟨b,hb,hc⟩:=hx _ _ hy
   cases hb
   exact hc)
  rw [List.length_map]at this
  simp only [Extern.Bytes.bytesOf,this]
  have e:Lib.bytesOf (l.map fun c=>(c.toNat:Int))=l:=by
   unfold Lib.bytesOf
   rw [List.map_map]
   conv=>rhs;rw [← List.map_id l]
   exact List.map_congr_left fun c _=>by simp
  rw [e]
  show Result.ok ({ data:=(#[]:Array UInt8)++l.toArray }:ByteArray) w=_
  rw [Array.empty_append]
theorem run_bcmp {x y:Frm.Bs} (h1:rdsl 1 av (bys x) w) (h2:rdsl 1 bv (bys y) w):(Extern.BytealgCompare.compare #[av,bv]).run Tryz.prog w = .ok (.int .i64 (Lib.compareBytes x y)) w:=by
 change Sem.run Tryz.prog (do pure (goInt (Extern.BytealgCompare.cmp (← Extern.Bytes.bytesOf av) (← Extern.Bytes.bytesOf bv)))) w=_
 simp only [Sem.run_bind,Sem.run_pure,run_bytesOf h1,run_bytesOf h2,Result.andThen]
 rw [Lib.cmp_eq]
 rfl
set_option maxRecDepth 100000 in
theorem bcmp_c (x y:Frm.Bs) (h1:rdsl 1 av (bys x) w) (h2:rdsl 1 bv (bys y) w) :
  Calls Tryz.prog 130 #[av,bv] w fun e w'=>e = .returned (.int .i64 (Lib.compareBytes x y))∧w'=w:=by
 have hr:=run_bcmp h1 h2
 generalize Lib.compareBytes x y=r at *
 clear h1 h2
 go_enter Tryz.func130,Tryz.ntmps130
 go_wp2
 rw [run_callFunc_extern Tryz.func171 kRz kRz kRz (e:=Extern.BytealgCompare.compare) kRz,hr]
 simp only [Result.andThen]
 rw [Oper.upon_value]
 go_wp2
 go_ret
 exact ⟨rfl,rfl⟩
end
end Go.Proofs.YtlimfgdbfadohaaGreatDoor
