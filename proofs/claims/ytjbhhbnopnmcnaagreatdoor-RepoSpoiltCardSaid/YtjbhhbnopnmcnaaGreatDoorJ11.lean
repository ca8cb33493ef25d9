import Derived.Test.YtjbhhbnopnmcnaaGreatDoorJ10
set_option linter.unusedVariables false
set_option maxHeartbeats 128000000
namespace Go.Hin
open Go.Med
open Go.Seg (Log Keeps Holds HG HintOk mag Plc)
open Go.Frm (Fnd encs GoodE fnds Ent)
open Go.Rep (Use)
section
variable {n K r E B c:Nat}{L:Log}{M:Med}{C:List (List Ent)}{N:Int}{us:List Use}{ps:List (Bs×Plc)}
theorem HintOk.size (h:HintOk L c us ps){s:Int} (hs:s∈L.segs.take c):L.size s≤33554432:=by
 rw [← h.segs]at hs
 obtain ⟨u,hu,rfl⟩:=List.mem_map.1 hs
 obtain ⟨_,_,h3,h4⟩:=h.use u hu
 omega
theorem HintOk.idx (h:HintOk L c us ps) (hL:L.Ok) (hl:ps.length≤65536):Bok.Ok 3 true (ps.map Rep.idxRw):=by
 refine ⟨by rw [List.length_map];exact hl,fun r hr=>?_,fun i a b ha hb=>?_⟩
 ·obtain ⟨q,hq,rfl⟩:=List.mem_map.1 hr
  obtain ⟨p1,p2,p3,p4⟩:=h.plc q hq
  have hz:=HintOk.size h p4
  have hsg:=List.mem_of_mem_take p4
  obtain ⟨x,hx,hxe⟩:=List.mem_map.1 hsg
  have hnm:=hL.nums x hx
  refine ⟨h.key q hq,rfl,fun m hm=>?_⟩
  simp only [Rep.idxRw,List.mem_cons,List.not_mem_nil,or_false]at hm
  rcases hm with rfl|rfl|rfl <;> omega
 ·rw [List.getElem?_map]at ha hb
  obtain ⟨x,hx,rfl⟩:=Option.map_eq_some_iff.1 ha
  obtain ⟨y,hy,rfl⟩:=Option.map_eq_some_iff.1 hb
  obtain ⟨i1,rfl⟩:=List.getElem?_eq_some_iff.1 hx
  obtain ⟨i2,rfl⟩:=List.getElem?_eq_some_iff.1 hy
  unfold Bok.ahead
  rw [if_pos rfl]
  exact List.pairwise_iff_getElem.1 h.rise i (i+1) i1 i2 oQ
theorem HintOk.uses (h:HintOk L c us ps) (hL:L.Ok) (hl:us.length≤65536):Bok.Ok 3 false (us.map Rep.useRw):=by
 have hri:(us.map (·.seg)).Pairwise (· < ·):=by
  rw [h.segs];exact (Seg.segs_rise hL).sublist (List.take_sublist _ _)
 refine ⟨by rw [List.length_map];exact hl,fun r hr=>?_,fun i a b ha hb=>?_⟩
 ·obtain ⟨u,hu,rfl⟩:=List.mem_map.1 hr
  obtain ⟨p1,p2,p3,p4⟩:=h.use u hu
  have hsg:u.seg∈L.segs:=List.mem_of_mem_take (by rw [← h.segs];exact List.mem_map.2 ⟨u,hu,rfl⟩)
  obtain ⟨x,hx,hxe⟩:=List.mem_map.1 hsg
  have hnm:=hL.nums x hx
  refine ⟨rfl,rfl,fun m hm=>?_⟩
  simp only [Rep.useRw,List.mem_cons,List.not_mem_nil,or_false]at hm
  rcases hm with rfl|rfl|rfl <;> omega
 ·rw [List.getElem?_map]at ha hb
  obtain ⟨x,hx,rfl⟩:=Option.map_eq_some_iff.1 ha
  obtain ⟨y,hy,rfl⟩:=Option.map_eq_some_iff.1 hb
  obtain ⟨i1,rfl⟩:=List.getElem?_eq_some_iff.1 hx
  obtain ⟨i2,rfl⟩:=List.getElem?_eq_some_iff.1 hy
  unfold Bok.ahead
  rw [if_neg dCz]
  have:=List.pairwise_iff_getElem.1 hri i (i+1) (by rw [List.length_map];exact i1) (by rw [List.length_map];exact i2) oQ
  rw [List.getElem_map,List.getElem_map]at this
  exact this
theorem books_len {X:Bs→Nat} (hi:Bok.Ok 3 true (ps.map Rep.idxRw)) (hu:Bok.Ok 3 false (us.map Rep.useRw)) (h1:ps.length≤1000) (h2:us.length≤1000) :
  (Bok.book X Bok.mgIdx true (ps.map Rep.idxRw)).length+(Bok.book X Bok.mgUse false (us.map Rep.useRw)).length≤100000:=by
 rw [Bok.book_len (k:=3) rfl hi.row,Bok.book_len (k:=3) rfl hu.row,List.length_map,List.length_map,show Bok.rowSz true 3=44 from rfl,show Bok.rowSz false 3=12 from rfl]
 omega
end
structure Hd (T:Kept) (P:ByteArray→Prop) (K:Nat) (M:Med):Prop where
 ok:M.Ok K
 nm:∀ k,k≤M.waits.length→(∀ t∈T,nget (M.lastNames k) t.1=some t.2.1)∧∀ p∈M.lastNames k,(∃ t∈T,p.1=t.1)∨P p.1
 fil:∀ t∈T,M.file t.2.1=t.2.2
section
variable {T:Kept}{P:ByteArray→Prop}{K K' r:Nat}{M:Med}{s:ByteArray}{L:Log}{N:Int}
end
section
variable {T:Kept}{P:ByteArray→Prop}{n K K' E B c:Nat}{L:Log}{M M':Med}{C:List (List Ent)}{N:Int}{b1 b2:Frm.Bs}{us:List Use}
structure More (T:Kept) (P:ByteArray→Prop) (N:Int) (K E B n:Nat) (L:Log) (M:Med) (C:List (List Ent)):Prop where
 hg:HG K 1048576 E B n L M C
 hd:Hd T P K M
 on:L.on=true→N+1<C.length
 len:N+1≤C.length
end
end Go.Hin
namespace Go.Seg
open Go.Med
open Go.Frm (Bs Ent encs GoodE)
open Go.Rep
structure Rp (K r E B n:Nat) (L:Log) (M:Med) (C:List (List Ent)):Prop where
 hg:HG K r E B n L M C
 tmp:nget M.now Hin.tmp=none
 few:C.flatten.length≤n
 small:∀ p∈M.now,p.1.size≤24
section
variable {K r E B n:Nat}{L:Log}{M M':Med}{C:List (List Ent)}{x:Ent}
theorem name_24 (k:Int):(name k).size≤24:=by
 rcases Hin.seg_name k with z|⟨z,_⟩
 ·rw [z];decide
 ·rw [z];decide
theorem HG.apart {K' E' B':Nat} (h:HG K r E B n L M C) (c:Calm K' r M') (ha:∀ k:Int,M'.all (name k)=M.all (name k)) (hu:M'.used≤n * 400+B') (hn:M'.now.length≤n+E'):HG K' r E' B' n L M' C:=by
 have has:∀ k:Int,(∃ i,nget M'.now (name k)=some i)↔∃ i,nget M.now (name k)=some i:=fun k=>by
  rw [← Hin.all_has c.quiet,← Hin.all_has h.keeps.calm.quiet,ha]
 exact ⟨⟨h.keeps.log,c,fun s hs=>(has s.1).2 (h.keeps.has s hs)⟩,h.len,h.at_,fun k es hk=>by rw [ha];exact h.file k es hk,h.good,h.count,hu,hn,fun k i hk hi=>by
  obtain ⟨j,hj⟩:=(has k).1 ⟨i,hi⟩
  exact h.cover k j hk hj⟩
theorem Rp.grown (h:Rp K r E B n L M C){K' n':Nat}{L':Log}{C':List (List Ent)} (hg:HG K' r E B n' L' M' C') (hr:Hin.Grown M M') (hf:C'.flatten.length≤n'):Rp K' r E B n' L' M' C':=by
 refine ⟨hg,?_,hf,fun p hp=>?_⟩
 ·cases hi:nget M'.now Hin.tmp with
  |none=>rfl
  |some i=>
   rcases hr _ (nget_mem hi) with q|⟨k,q⟩
   ·have:=nget_of_mem h.hg.keeps.calm.ok.nowOk.srt.keys (show (Hin.tmp,i)∈M.now from q)
    rw [h.tmp]at this;cases this
   ·exact absurd q (Hin.tmp_ne_seg k)
 ·rcases hr p hp with q|⟨k,q⟩
  ·exact h.small p q
  ·rw [q];exact name_24 k
theorem Rp.mono (h:Rp K r E B n L M C){K' E' B' n':Nat} (h1:K≤K') (h2:E≤E') (h3:B≤B') (h4:n≤n'):Rp K' r E' B' n' L M C:=⟨h.hg.mono h1 h2 h3 h4,h.tmp,Nat.le_trans h.few h4,h.small⟩
theorem Rp.yes (h:Rp K r E B n L M C) (hn:n<1000) (hk:x.key.length=32) (hd:x.data.length≤300) (h0:(Frm.encode x).2=0) (hz:(L.append M x).2.2=0) :
  ∃ C',Rp (K+4) r E B (n+1) (L.append M x).1.1 (L.append M x).1.2 C'∧C'=put C (L.fits (Frm.encode x).1.length) x∧C'.flatten=C.flatten++[x]∧∃ row,rowsC 0 C'=rowsC 0 C++[row]∧row.2.e=x∧rplc row=(L.append M x).2.1:=by
 obtain ⟨_,_,_,a4,_,_⟩:=h.hg.append hn x hk hd h0 (.inl hz)
 have hfl:=put_flat C (L.fits (Frm.encode x).1.length) x h.hg.fits_ne
 refine ⟨_,h.grown a4 (Hin.lappend_grown L M x) ?_,rfl,hfl,_,rowsC_put C _ x h.hg.fits_ne,putRow_e C _ x,(h.hg.append_at h0 hz).symm⟩
 rw [hfl,List.length_append,List.length_singleton];have:=h.few;omega
theorem Rp.no (h:Rp K r E B n L M C) (hk:x.key.length=32) (hz:(L.append M x).2.2≠0):Rp (K+4) r E B n (L.append M x).1.1 (L.append M x).1.2 C:=
 h.grown (h.hg.append_no x hk hz) (Hin.lappend_grown L M x) h.few
theorem HG.append_err (h:HG K r E B n L M C) (hn:n<1000) (hnm:M.now.length<500) (h0:(Frm.encode x).2=0):(L.append M x).2.2=0∨(L.append M x).2.2=11:=by
 cases hf:L.fits (Frm.encode x).1.length with
 |true=>
  rw [Log.append_grow h0 hf]
  obtain ⟨s,hl⟩:=h.keeps.log.last (fits_on' hf)
  obtain ⟨i,hi⟩:=h.keeps.has _ (List.mem_of_getLast? hl)
  unfold Log.grow
  rw [hl]
  simp only
  rcases append_cases h.keeps.calm.quiet (name s.1) (Frm.encode x).1 with ⟨q1,_⟩|⟨j,q1,⟨q2,q3⟩|⟨q2,q3⟩⟩
  ·rw [hi]at q1;cases q1
  ·rw [q3];right;rw [if_neg (by simp)]
  ·rw [q3];left;rw [if_pos rfl]
 |false=>
  rw [Log.append_begin h0 hf]
  obtain ⟨s1,s2,s3,_,s5⟩:=h.keeps.shut
  have hnx:(L.shut M).1.1.next=C.length:=by
   have:=h.next
   unfold Log.next at this ⊢
   rw [s3];exact this
  unfold Log.begin
  rw [if_pos s2]
  have hcnt:=h.count
  have hno:nget (L.shut M).1.2.now (name (C.length:Int))=none:=by
   cases hi:nget (L.shut M).1.2.now (name (C.length:Int)) with
   |none=>rfl
   |some i=>
    rw [s5.now]at hi
    have:=h.cover C.length i oQ hi
    omega
  have hl5:(L.shut M).1.2.now.length<500:=by rw [s5.now];exact hnm
  have hcm:=s1.calm
  generalize (L.shut M).1.1=L1 at *
  generalize (L.shut M).1.2=M1 at *
  unfold Log.begin1
  rw [hnx,if_neg oQ]
  obtain ⟨c1,c2,_,_,_⟩:=create_full hcm (good_name (C.length:Int) oQ oQ) hno hl5
  have hc1:=hcm.create (name (C.length:Int))
  have hself:nget (M1.create (name (C.length:Int))).1.now (name (C.length:Int))=some M1.files.length:=by rw [c2];exact nget_put_self hcm.ok.nowOk.srt _ _
  rw [if_neg (fun q=>q c1)]
  rcases append_cases hc1.quiet (name (C.length:Int)) (mag++(Frm.encode x).1) with ⟨q1,_⟩|⟨j,q1,⟨q2,q3⟩|⟨q2,q3⟩⟩
  ·rw [hself]at q1;cases q1
  ·right
   rw [q3,if_neg (by simp),if_pos rfl]
   simp only
   rw [if_pos (by rw [remove_quiet hc1.quiet hself])]
  ·left
   rw [q3,if_pos rfl]
theorem Rp.commit (h:Rp K r E B n L M C) (hn:n<1000) (hz:(L.append M comEnt).2.2=0) :
  (L.commit M).2.2=0∧(L.commit M).1.1.on=false∧∃ C',Rp (K+5) r E B (n+1) (L.commit M).1.1 (L.commit M).1.2 C'∧(∃ row,rowsC 0 C'=rowsC 0 C++[row]∧row.2.e=comEnt)∧C'.flatten=C.flatten++[comEnt]∧(∃ es,C'≠[]∧C'[C'.length - 1]?=some es∧endsC es=true):=by
 obtain ⟨a1,a2,_,a4⟩:=h.hg.commit hn (.inl hz)
 have hfl:=put_flat C (L.fits (Frm.encode comEnt).1.length) comEnt h.hg.fits_ne
 refine ⟨a1,a2,_,h.grown a4 (Hin.lcommit_grown L M) ?_,⟨_,rowsC_put C _ comEnt h.hg.fits_ne,putRow_e C _ comEnt⟩,hfl,endsC_put C _⟩
 rw [hfl,List.length_append,List.length_singleton];have:=h.few;omega
theorem Rp.commit_no (h:Rp K r E B n L M C) (hz:(L.append M comEnt).2.2≠0):(L.commit M).2.2=(L.append M comEnt).2.2∧(L.commit M).1=(L.append M comEnt).1:=by
 rw [Log.commit_eq,if_pos hz]
 exact ⟨rfl,rfl⟩
theorem Rp.run (h:Rp K r E B n L M C) (hl:∃ es,C≠[]∧C[C.length - 1]?=some es∧endsC es=true):Rep.run (fun s=>L.bytes M s) L.segs = .inr C.length∧L.segs.length=C.length∧0<C.length∧L.segs.take C.length=L.segs∧lastOfL L.segs=(C.length:Int) - 1:=by
 obtain ⟨es,hne,he,hen⟩:=hl
 have hp:0<C.length:=List.length_pos_iff.2 hne
 obtain ⟨c,h1,h2,h3,h4⟩:=h.hg.run
 have e1:c=C.length:=by
  by_cases hh:c=C.length
  ·exact hh
  ·have:=h4 (C.length - 1) es oQ he
   rw [hen]at this;cases this
 obtain ⟨s1,s2⟩:=h.hg.segs
 refine ⟨by rw [← e1];exact h1,s1,hp,by rw [← s1];exact List.take_length,?_⟩
 have e:L.segs.getLast?=some ((C.length:Int) - 1):=by
  rw [List.getLast?_eq_getElem?,s1,s2 _ oQ]
  congr 1;omega
 unfold lastOfL
 rw [e]
theorem Rp.rows (h:Rp K r E B n L M C):rowsOf (fun s=>L.bytes M s) L.segs=rowsC 0 C:=by
 have e:=h.hg.rows C.length
 rw [← h.hg.segs.1,List.take_length,h.hg.segs.1,List.take_length]at e
 exact e
theorem Rp.rows_len (h:Rp K r E B n L M C):(rowsOf (fun s=>L.bytes M s) L.segs).length≤n:=by
 rw [h.rows,← List.length_map (f:=fun r:Row=>r.2.e),rowsC_e]
 exact h.few
theorem Rp.row (h:Rp K r E B n L M C){q:Row} (hq:q∈rowsC 0 C):L.read M (rplc q)=(q.2.e,0)∧GoodE q.2.e∧(q.2.size:Int)≤4294967296∧(q.2.at_:Int)≤4294967296:=by
 refine ⟨h.hg.readRow hq,?_⟩
 obtain ⟨j,es,h5,h6,h7⟩:=rowsC_mem C 0 hq
 obtain ⟨u,v,h8,h9,h10⟩:=fnds_mem es 8 h7
 have hat:=List.mem_of_getElem? (h.hg.at_ j es h5)
 have hsz:=h.hg.keeps.log.sizes _ hat
 have he:(encs es).length=(encs u).length+((Frm.encode q.2.e).1.length+(encs v).length):=by
  conv=>lhs;rw [h8]
  rw [encs_app,List.length_append]
  congr 1
  exact List.length_append
 simp only at hsz
 exact ⟨(h.hg.good es (List.mem_of_getElem? h5)).1 _ (by rw [h8];simp),by omega,by omega⟩
theorem Rp.rows_size (h:Rp K r E B n L M C):∀ q∈rowsOf (fun s=>L.bytes M s) L.segs,(q.2.size:Int)≤4294967296:=fun q hq=>by
 rw [h.rows]at hq
 exact (h.row hq).2.2.1
theorem Rp.hint (h:Rp K r E B n L M C){kv:List (Bs×Abt)} (hk:Tab.Lists (ledger (rowsOf (fun s=>L.bytes M s) L.segs)) kv) (h32:∀ q∈kv,q.1.length=32) :
  HintOk L C.length ((usesOf (fun s=>L.bytes M s) L.segs).map (upd kv)) (puts kv):=by
 have e:L.segs.take C.length=L.segs:=by rw [← h.hg.segs.1];exact List.take_length
 have:=h.hg.hint (Nat.le_refl _) (kv:=kv) (by rw [e];exact hk) h32
 rw [e]at this
 exact this
theorem Rp.save (h:Rp K r E B n L M C) (hn:n+E≤480){N:Int} (h1:0≤N) (h2:N<1048576) (b1 b2:Bs) :
  Rp (K+600) r (E+2) (B+b1.length+b2.length) n L (Hin.save M N b1 b2).1 C∧((Hin.save M N b1 b2).2=0∨(Hin.save M N b1 b2).2=11) ∧
   (∀ f∈(Hin.write (Hin.write M (Hin.name Hin.idx N) b1).1 (Hin.name Hin.use N) b2).1.syncDir.1.list,f.size≤4000000000):=by
 have hnm:=h.hg.names
 have s:=Hin.save_calm (b1:=b1) (b2:=b2) h.hg.keeps.calm h.tmp oQ h1 h2
 have g1:=Hin.name_good (ld:=Hin.idx) rfl dCz N h1 h2
 have g2:=Hin.name_good (ld:=Hin.use) rfl dCz N h1 h2
 have hsz:∀ ld:ByteArray,ld.data.toList.length=4→(Hin.name ld N).size≤24:=fun ld hl=>by
  show (Hin.name ld N).data.size≤24
  rw [← Array.length_toList,Hin.name_eq ld N h1 h2,List.length_append,hl,digs_len];omega
 refine ⟨⟨h.hg.apart s.calm (fun k=>?_) (by have:=s.used;have:=h.hg.used;omega) (by have:=s.len;omega),s.tmp,h.few,fun p hp=>?_⟩,s.done.imp (·.1) id,fun f hf=>?_⟩
 ·by_cases hk:0≤k∧k<1048576
  ·exact s.other _ (Hin.tmp_ne_seg k).symm (Hin.seg_ne_idx k N h1 h2) (Hin.seg_ne_use k N h1 h2) (Hin.other_no (by rw [Hin.number_seg]))
  ·exact s.other _ (Hin.tmp_ne_seg k).symm (Hin.seg_ne_idx k N h1 h2) (Hin.seg_ne_use k N h1 h2) (Hin.other_no (by rw [Hin.number_seg]))
 ·rcases s.names p hp with q|q|q
  ·exact h.small p q
  ·rw [q];exact hsz _ rfl
  ·rw [q];exact hsz _ rfl
 ·have w1:=Hin.write_calm (b:=b1) h.hg.keeps.calm h.tmp oQ g1 (Hin.idx_ne_tmp N h1 h2)
  have w2:=Hin.write_calm (b:=b2) w1.calm w1.tmp (by have:=w1.len;omega) g2 (Hin.use_ne_tmp N h1 h2)
  rw [w2.calm.syncDir.quiet.list,Hin.syncDir_now]at hf
  obtain ⟨p,hp,rfl⟩:=List.mem_map.1 hf
  refine Nat.le_trans (m:=24) ?_ dCz
  rcases w2.names p hp with q|q
  ·rcases w1.names p q with q|q
   ·exact h.small p q
   ·rw [q];exact hsz _ rfl
  ·rw [q];exact hsz _ rfl
end
end Go.Seg
namespace Go.Proofs.YtjbhhbnopnmcnaaGreatDoor
open Go Go.Sl Go.Med Go.MapKept Go.RowKit
section
variable {w0 w:World}{F:List HProp}{p m K r ps pn B r0 E B0 n:Nat}{L:Seg.Log}{M:Med}{C:List (List Frm.Ent)}{seg:Int}{d:Bool}{mp:Frm.Bs→Option Seg.Plc}
theorem rpcomC_c (h:Sat w0 w (rpPt r m seg p ps pn false::F)):Calls Tryz.prog 37 #[ptr r] w (Rtn fun v w'=>v=errno 0∧w=w'):=by
 have e5:w.cell? ⟨r,5,none⟩=some (.bool false):=h.cellAt 5 _ rfl
 have hok:=rokY_c h
 clear h
 go_enter Tryz.func37,Tryz.ntmps37
 go_wp2_with fail
 refine hok.mono ?_
 rintro ee w1 ⟨v,rfl,rfl,rfl⟩
 go_wp2
 go_ret
 exact ⟨_,rfl,rfl,rfl⟩
set_option maxRecDepth 20000 in
theorem rpcomN_c (hL:L.Ok) (hM:M.Ok K) (hKK:K+6≤1099511627776) (hH:Ro w0 F Half) (hz:(L.commit M).2.2≠0) (h:Sat w0 w (rpPt r m seg p ps pn true::LogRep p m L::MedRep m M::F)) :
  Calls Tryz.prog 37 #[ptr r] w (Rtn fun v w'=>v=errno (L.commit M).2.2∧Sat w0 w' (rpPt r m seg p ps pn true::LogRep p m (L.commit M).1.1::MedRep m (L.commit M).1.2::F)):=by
 have hcm:=lcommit_c (Ro.os hH) hL hM hKK (h.sb:Sat w0 w (LogRep p m L::MedRep m M::rpPt r m seg p ps pn true::F))
 generalize L.commit M=q at *
 obtain ⟨⟨L2,M2⟩,n2,e2⟩:=q
 dsimp only at hcm hz ⊢
 have hb:(e2 != 0)=true:=bne_iff_ne.2 hz
 have e5:w.cell? ⟨r,5,none⟩=some (.bool true):=h.cellAt 5 _ rfl
 have e2':w.cell? ⟨r,2,none⟩=some (.pointer (some ⟨p,0,none⟩)):=h.cellAt 2 _ rfl
 have hok:=rokY_c h
 clear h hz hL hM hKK hH
 go_enter Tryz.func37,Tryz.ntmps37
 go_wp2_with fail
 refine hok.mono ?_
 rintro ee w1 ⟨v,rfl,rfl,rfl⟩
 go_wp2_with fail
 refine hcm.mono ?_
 rintro ee w2 ⟨v,rfl,rfl,h2⟩
 clear hcm e5 e2'
 go_wp2_with fail
 go_ret
 exact ⟨_,rfl,rfl,h2.sb⟩
structure Comd (K r0 E B0 n:Nat) (L:Seg.Log) (M:Med) (C C2:List (List Frm.Ent)) (N:Int) (us:List Rep.Use) (pl:List (Frm.Bs×Seg.Plc)) (B2:Nat):Prop where
 rp:Seg.Rp K r0 E B0 n L M C2
 row:∃ row,Rep.rowsC 0 C2=Rep.rowsC 0 C++[row]∧row.2.e=Seg.comEnt
 flat:C2.flatten=C.flatten++[Seg.comEnt]
 ends:∃ es,C2≠[]∧C2[C2.length - 1]?=some es∧Rep.endsC es=true
 off:L.on=false
 last:N=(C2.length:Int) - 1
 hint:Seg.HintOk L C2.length us pl
 len:B2≤n∧us.length≤n∧pl.length≤n
 now:Tab.mapOf pl=Rep.nowOf (Rep.rowsC 0 C2)
set_option maxRecDepth 20000 in
theorem rpcomY_c (hR:Seg.Rp K r0 E B0 n L M C) (hn:n≤200) (hE:E≤200) (hK:K≤1048576) (hz:(L.append M Seg.comEnt).2.2=0) (hH:Ro w0 F Half) (h:Sat w0 w (rpPt r m seg p ps pn true::TabML pn mp B::LogRep p m L::MedRep m M::F)) :
  Calls Tryz.prog 37 #[ptr r] w (Rtn fun v w'=>∃ (ps' pi B2:Nat) (uv tv:Value) (N:Int) (us:List Rep.Use) (pl:List (Frm.Bs×Seg.Plc)) (M3:Med) (C2:List (List Frm.Ent)),v=errno 0∧(Comd (K+605) r0 (E+2) (B0+100000) (n+1) (L.commit M).1.1 M3 C C2 N us pl B2∧∃ a c,tv = .slice a 0 c) ∧
   Sat w0 w' (rpPt r m seg p ps' pn false::stPt ps' N pi uv tv::TabML pi (Tab.mapOf pl) B2::osl 113 3 uv (us.flatMap uenc)::TabML pn mp B::LogRep p m (L.commit M).1.1::MedRep m M3::F)):=by
 obtain ⟨z1,z2,C2,z3,z4,z5,z6⟩:=hR.commit oQ hz
 have hcm:=lcommit_c (Ro.os hH) hR.hg.keeps.log hR.hg.keeps.calm.ok oQ (h.sb:Sat w0 w (LogRep p m L::MedRep m M::rpPt r m seg p ps pn true::TabML pn mp B::F))
 generalize L.commit M=q at *
 obtain ⟨⟨L2,M2⟩,n2,e2⟩:=q
 dsimp only at hcm z1 z2 z3 ⊢
 subst z1
 have e5:w.cell? ⟨r,5,none⟩=some (.bool true):=h.cellAt 5 _ rfl
 have e2':w.cell? ⟨r,2,none⟩=some (.pointer (some ⟨p,0,none⟩)):=h.cellAt 2 _ rfl
 have hok:=rokY_c h
 have R2:=uQ z3;have Z2:=uQ z2;have Z4:=uQ z4;have Z5:=uQ z5;have Z6:=uQ z6;have HH:=uQ hH;have Hn:=uQ hn;have HE:=uQ hE;have HK:=uQ hK
 clear h hz hR hn hE hK hH z2 z3 z4 z5 z6
 go_enter Tryz.func37,Tryz.ntmps37
 go_wp2_with fail
 refine hok.mono ?_
 rintro ee w1 ⟨v,rfl,rfl,rfl⟩
 go_wp2_with fail
 refine hcm.mono ?_
 rintro ee w2 ⟨v,rfl,rfl,h2⟩
 clear hcm hok e5 e2'
 go_wp2_with (with_reducible apply at_store)
 refine ⟨wl_store (cs':=#[ptr m,.int .i64 seg,ptr p,ptr ps,ptr pn,.bool false]) (h2.sb:Sat w0 w2 (rpPt r m seg p ps pn true::LogRep p m L2::MedRep m M2::TabML pn mp B::F)) rFz rFz rFz upd0 nLz kRz rFz ?_⟩
 intro w3 h3
 clear h2
 have e2':w3.cell? ⟨r,2,none⟩=some (.pointer (some ⟨p,0,none⟩)):=h3.cellAt 2 _ rfl
 have HL:=uQ R2.out.hg.keeps.log;have HC:=uQ R2.out.hg.keeps.calm
 have hrn:=run_c HL.out HC.out.ok (Ro.os HH.out) (Nat.le_trans R2.out.rows_len (by have:=Hn.out;omega)) R2.out.rows_size (h3.sb:Sat w0 w3 (LogRep p m L2::MedRep m M2::rpPt r m seg p ps pn false::TabML pn mp B::F))
 clear h3
 go_wp2_with fail
 refine hrn.mono ?_
 rintro ee w5 ⟨v,rfl,ho⟩
 clear hrn e2'
 obtain ⟨hrun,hsl,hpos,htk,hlast⟩:=R2.out.run Z6.out
 have hrun':Rep.run (lbt L2 M2) L2.segs = .inr C2.length:=hrun
 unfold RunOut at ho
 rw [hrun']at ho
 obtain ⟨ps',pi,uv,tv,av,kv,rfl,⟨hk1,hk3,hk4⟩,⟨⟨ta,tc,rfl⟩,htv⟩,h5⟩:=ho
 rw [htk]at hk1 hk4 h5
 rw [hlast,hsl,Nat.sub_self]at h5
 clear htv
 have hcn:C2.length≤n+1:=R2.out.hg.count
 have hkn:kv.length≤n+1:=Nat.le_trans hk4 R2.out.rows_len
 have Hho:=uQ (show Seg.HintOk L2 C2.length ((Rep.usesOf (lbt L2 M2) L2.segs).map (Rep.upd kv)) (Rep.puts kv) from R2.out.hint hk1 hk3)
 have Hnow:=uQ (show Tab.mapOf (Rep.puts kv)=Rep.nowOf (Rep.rowsC 0 C2) by rw [Rep.puts_now hk1];exact congrArg Rep.nowOf R2.out.rows)
 have Hpl:=uQ (show (Rep.puts kv).length≤n+1 from Nat.le_trans (by unfold Rep.puts;rw [List.length_map];exact List.length_filter_le _ _) hkn)
 have Hkl:=uQ hkn
 have Hul:=uQ (show ((Rep.usesOf (lbt L2 M2) L2.segs).map (Rep.upd kv)).length≤n+1 by unfold Rep.usesOf;rw [List.length_map,List.length_map,hsl];exact hcn)
 have Hli:=uQ (show Tab.Lists (Tab.mapOf (Rep.puts kv)) (Rep.puts kv) from Tab.mapOf_lists (Rep.puts_rise hk1.rise))
 have Hc0:=uQ hpos;have Hcn:=uQ hcn
 clear hrun hrun' hk1 hk3 hk4 hlast hsl hpos htk hcn hkn
 generalize (Rep.usesOf (lbt L2 M2) L2.segs).map (Rep.upd kv)=us at *
 generalize kv.length=B2 at *
 generalize Rep.puts kv=pl at *
 have Hoi:=uQ (Hin.HintOk.idx Hho.out HL.out (by have:=Hpl.out;have:=Hn.out;omega))
 have Hou:=uQ (Hin.HintOk.uses Hho.out HL.out (by have:=Hul.out;have:=Hn.out;omega))
 have HB:=uQ (Hin.books_len (X:=Xx.sum) Hoi.out Hou.out (by have:=Hpl.out;have:=Hn.out;omega) (by have:=Hul.out;have:=Hn.out;omega))
 have HN:=uQ (show 0≤(C2.length:Int) - 1∧(C2.length:Int) - 1<1048576 by have:=Hc0.out;have:=Hcn.out;have:=Hn.out;omega)
 obtain ⟨N,hN⟩:∃ N,N=(C2.length:Int) - 1:=⟨_,rfl⟩
 rw [← hN]at h5
 have HNe:=uQ hN
 rw [← hN]at HN
 clear hN
 go_wp2_with (with_reducible apply at_alloc)
 refine ⟨wl_alloc zFlt h5 rfl ?_⟩
 intro b10 w6 h6
 clear h5
 go_wp2_with (with_reducible apply at_store)
 refine ⟨wl_storeA (fltA Rep.Flt.zero) h6 rFz rFz rFz upd0 kRz rFz ?_⟩
 intro w7 h7
 clear h6
 go_wp2_with (with_reducible apply at_store)
 refine ⟨wl_store (cs':=#[ptr m,.int .i64 seg,ptr p,ptr ps',ptr pn,.bool false]) (h7.sb:Sat w0 w7 (rpPt r m seg p ps pn false::stPt ps' N pi uv (.slice ta 0 tc)::TabML pi (Tab.mapOf pl) B2::osl 113 3 uv (us.flatMap uenc)::TabML pn mp B::LogRep p m L2::MedRep m M2::F)) rFz rFz rFz upd0 nLz kRz rFz ?_⟩
 intro w8 h8
 clear h7
 obtain ⟨bi,hbi⟩:∃ bi,bi=Bok.book Xx.sum Bok.mgIdx true (pl.map Rep.idxRw):=⟨_,rfl⟩
 obtain ⟨bu,hbu⟩:∃ bu,bu=Bok.book Xx.sum Bok.mgUse false (us.map Rep.useRw):=⟨_,rfl⟩
 have hB:=HB.out
 rw [← hbi,← hbu]at hB
 obtain ⟨s1,s2,s3⟩:=R2.out.save (by have:=Hn.out;have:=HE.out;omega) HN.out.1 HN.out.2 bi bu
 have hsv:=hsaveG_c HC.out.ok (by have:=HK.out;omega) HN.out.1 HN.out.2 pl Hli.out (by have:=Hkl.out;have:=Hn.out;omega) Hho.out.key us Hoi.out Hou.out bi bu hbi hbu s3
  (h8.sb:Sat w0 w8 (stPt ps' N pi uv (.slice ta 0 tc)::TabML pi (Tab.mapOf pl) B2::osl 113 3 uv (us.flatMap uenc)::MedRep m M2::rpPt r m seg p ps' pn false::TabML pn mp B::LogRep p m L2::F))
 have e0':w8.cell? ⟨r,0,none⟩=some (ptr m):=h8.cellAt 0 _ rfl
 generalize Hin.save M2 N bi bu=q at *
 obtain ⟨M3,e3⟩:=q
 dsimp only at hsv s1 s2
 have HCo:=uQ (show Comd (K+605) r0 (E+2) (B0+100000) (n+1) L2 M3 C C2 N us pl B2 from ⟨s1.mono oQ (Nat.le_refl _) oQ (Nat.le_refl _),Z4.out,Z5.out,Z6.out,Z2.out,HNe.out,Hho.out,⟨Hkl.out,Hul.out,Hpl.out⟩,Hnow.out⟩)
 clear h8 s1 s3 hB hbi hbu
 go_wp2_with fail
 refine hsv.mono ?_
 rintro ee w9 ⟨v,rfl,rfl,h9⟩
 clear hsv e0'
 rcases s2 with rfl|rfl
 ·go_wp2_with fail
  go_ret
  exact ⟨_,rfl,ps',pi,B2,uv,_,N,us,pl,M3,C2,rfl,⟨HCo.out,ta,tc,rfl⟩,h9.sb⟩
 ·go_wp2_with fail
  go_ret
  exact ⟨_,rfl,ps',pi,B2,uv,_,N,us,pl,M3,C2,rfl,⟨HCo.out,ta,tc,rfl⟩,h9.sb⟩
end
section
variable {w0 w:World}{F:List HProp}{p m K r ps pn pi B B2:Nat}{L:Seg.Log}{M:Med}{seg N:Int}{d:Bool}{uv tv:Value}{mi:Frm.Bs→Option Seg.Plc}
set_option maxRecDepth 20000 in
theorem rprolY_c (hL:L.Ok) (hM:M.Ok K) (hKK:K+1048576≤1099511627776) (hB:B2≤14000000) (hz:(L.rollback M).2=0) (h:Sat w0 w (rpPt r m seg p ps pn d::stPt ps N pi uv tv::TabML pi mi B2::LogRep p m L::MedRep m M::F)) :
  Calls Tryz.prog 20 #[ptr r] w (Rtn fun v w'=>∃ q,v=errno 0∧Sat w0 w' (rpPt r m seg p ps q false::stPt ps N pi uv tv::TabML q mi B2::TabML pi mi B2::LogRep p m (L.rollback M).1.1::MedRep m (L.rollback M).1.2::F)):=by
 have hrb:=lrollback_c hL hM hKK (h.sb:Sat w0 w (LogRep p m L::MedRep m M::rpPt r m seg p ps pn d::stPt ps N pi uv tv::TabML pi mi B2::F))
 rw [hz]at hrb
 generalize (L.rollback M).1.1=L2 at *
 generalize (L.rollback M).1.2=M2 at *
 have e2':w.cell? ⟨r,2,none⟩=some (.pointer (some ⟨p,0,none⟩)):=h.cellAt 2 _ rfl
 have hok:=rokY_c h
 have HB:=uQ hB
 clear h hz hL hM hKK hB
 go_enter Tryz.func20,Tryz.ntmps20
 go_wp2_with fail
 refine hok.mono ?_
 rintro ee w1 ⟨v,rfl,rfl,rfl⟩
 go_wp2_with fail
 refine hrb.mono ?_
 rintro ee w2 ⟨v,rfl,rfl,h2⟩
 clear hrb hok e2'
 have e3':w2.cell? ⟨r,3,none⟩=some (.pointer (some ⟨ps,0,none⟩)):=h2.cellP pick2 3 rfl
 have e1':w2.cell? ⟨ps,1,none⟩=some (.pointer (some ⟨pi,0,none⟩)):=h2.cellP pick3 1 rfl
 have hcp:=copyL_c HB.out (h2.sb:Sat w0 w2 (TabML pi mi B2::LogRep p m L2::MedRep m M2::rpPt r m seg p ps pn d::stPt ps N pi uv tv::F))
 clear h2
 go_wp2_with fail
 refine hcp.mono ?_
 rintro ee w3 ⟨v,rfl,q,rfl,h3⟩
 clear hcp e3' e1'
 go_wp2_with (with_reducible apply at_store)
 refine ⟨wl_store (cs':=#[ptr m,.int .i64 seg,ptr p,ptr ps,ptr q,.bool d]) (h3.sb:Sat w0 w3 (rpPt r m seg p ps pn d::stPt ps N pi uv tv::TabML q mi B2::TabML pi mi B2::LogRep p m L2::MedRep m M2::F)) rFz rFz rFz upd0 nLz kRz rFz ?_⟩
 intro w4 h4
 clear h3
 go_wp2_with (with_reducible apply at_store)
 refine ⟨wl_store (cs':=#[ptr m,.int .i64 seg,ptr p,ptr ps,ptr q,.bool false]) h4 rFz rFz rFz upd0 nLz kRz rFz ?_⟩
 intro w5 h5
 go_wp2_with fail
 go_ret
 exact ⟨_,rfl,q,rfl,h5⟩
end
end Go.Proofs.YtjbhhbnopnmcnaaGreatDoor
namespace Go.Tab
open Go.Frm (Bs)
section
variable {α V:Type}{m:Bs→Option V}{k:Bs}{v:V}
theorem len_le_of_sub [DecidableEq α]:∀ {l l':List α},l.Nodup→(∀ x∈l,x∈l')→l.length≤l'.length
 |[],_,_,_=>Nat.zero_le _
 |a::l,l',hd,hs=>by
  obtain ⟨h1,h2⟩:=List.nodup_cons.1 hd
  have hm:=hs a (.head _)
  have ih:=len_le_of_sub (l':=l'.erase a) h2 (fun x hx=>(List.mem_erase_of_ne (fun e:x=a=>h1 (by rw [← e];exact hx))).2 (hs x (.tail _ hx)))
  rw [List.length_erase_of_mem hm]at ih
  have:=List.length_pos_of_mem hm
  rw [List.length_cons];omega
theorem len_lists {t:Tb V} (h:t.Ok) (hi:t.Is m){kv:List (Bs×V)} (hl:Lists m kv):t.n=kv.length:=by
 have hA:((t.slots.filter fun x=>x.st==1).map (·.key)).Nodup:=by
  rw [List.nodup_iff_pairwise_ne,List.pairwise_map,List.pairwise_filter,List.pairwise_iff_getElem]
  intro i j hi hj hij p1 p2 e
  have:=h.good.one (List.getElem?_eq_getElem hi) (List.getElem?_eq_getElem hj) (by simpa using p1) (by simpa using p2) e
  omega
 have hn:t.n=((t.slots.filter fun x=>x.st==1).map (·.key)).length:=by
  rw [List.length_map,h.n]
  unfold fulls
  rw [List.countP_eq_length_filter]
 have hB:=hl.keys
 have hAB:∀ x∈(t.slots.filter fun x=>x.st==1).map (·.key),x∈kv.map (·.1):=fun x hx=>by
  obtain ⟨y,hy,rfl⟩:=List.mem_map.1 hx
  obtain ⟨h1,h2⟩:=List.mem_filter.1 hy
  obtain ⟨i,hi1,hi2⟩:=List.getElem_of_mem h1
  have:m y.key=some y.val:=(hi _ _).1 ⟨i,y,by rw [List.getElem?_eq_getElem hi1,hi2],by simpa using h2,rfl,rfl⟩
  exact List.mem_map.2 ⟨(y.key,y.val),(hl.mem _ _).2 this,rfl⟩
 have hBA:∀ x∈kv.map (·.1),x∈(t.slots.filter fun x=>x.st==1).map (·.key):=fun x hx=>by
  obtain ⟨q,hq,rfl⟩:=List.mem_map.1 hx
  obtain ⟨i,y,h1,h2,h3,h4⟩:=(hi q.1 q.2).2 ((hl.mem q.1 q.2).1 hq)
  exact List.mem_map.2 ⟨y,List.mem_filter.2 ⟨List.mem_of_getElem? h1,by simpa using h2⟩,h3⟩
 have l1:=len_le_of_sub hA hAB
 have l2:=len_le_of_sub hB hBA
 rw [List.length_map]at l1 l2 hn
 rw [List.length_map]at l1 l2
 omega
def setAux (k:Bs) (b:V):List (Bs×V)→Bool→List (Bs×V)
 |[],done=>if done then [] else [(k,b)]
 |x::m,done=>(if !done && !decide (x.1<k) then [(k,b)] else [])++((if x.1≠k then [x] else [])++setAux k b m (done || !decide (x.1<k)))
theorem setAux_done (k:Bs) (b:V):∀ l:List (Bs×V),setAux k b l true=l.filter fun x=>decide (x.1≠k)
 |[]=>rfl
 |x::l=>by
  unfold setAux
  rw [Bool.true_or,setAux_done k b l,List.filter_cons]
  simp only [Bool.not_true,Bool.false_and,Bool.false_eq_true,if_false,List.nil_append]
  by_cases h:x.1=k
  ·simp [h]
  ·simp [h]
theorem setAux_mem (k:Bs) (b:V):∀ {l:List (Bs×V)},l.Pairwise (fun a b=>a.1<b.1)→(∀ p,p∈setAux k b l false↔p=(k,b)∨p∈l∧p.1≠k)∧(setAux k b l false).Pairwise (fun a b=>a.1<b.1)
 |[],_=>⟨fun p=>by unfold setAux;simp,by unfold setAux;simp⟩
 |x::l,h=>by
  obtain ⟨h1,h2⟩:=List.pairwise_cons.1 h
  unfold setAux
  by_cases hx:x.1<k
  ·obtain ⟨i1,i2⟩:=setAux_mem k b h2
   have hne:x.1≠k:=fun e=>by rw [e]at hx;exact List.lt_irrefl _ hx
   rw [decide_eq_true hx]
   simp only [Bool.not_true,Bool.and_false,Bool.false_eq_true,if_false,List.nil_append,Bool.or_false,if_pos hne,List.singleton_append]
   refine ⟨fun p=>?_,?_⟩
   ·rw [List.mem_cons,i1,List.mem_cons]
    constructor
    ·rintro (e|e|⟨e,f⟩)
     ·exact .inr ⟨.inl e,by rw [e];exact hne⟩
     ·exact .inl e
     ·exact .inr ⟨.inr e,f⟩
    ·rintro (e|⟨e|e,f⟩)
     ·exact .inr (.inl e)
     ·exact .inl e
     ·exact .inr (.inr ⟨e,f⟩)
   ·refine List.pairwise_cons.2 ⟨fun p hp=>?_,i2⟩
    rcases (i1 p).1 hp with e|⟨e,_⟩
    ·rw [e];exact hx
    ·exact h1 p e
  ·have hlt:∀ p∈l,k<p.1:=fun p hp=>by
    rcases bs_tri x.1 k with q|q|q
    ·exact absurd q hx
    ·rw [← q];exact h1 p hp
    ·exact List.lt_trans q (h1 p hp)
   rw [decide_eq_false hx]
   simp only [Bool.not_false,Bool.and_true,if_true,Bool.or_true,List.singleton_append]
   rw [setAux_done]
   have hf:(l.filter fun x=>decide (x.1≠k))=l:=List.filter_eq_self.2 fun p hp=>decide_eq_true fun e=>by
    have:=hlt p hp
    rw [e]at this
    exact List.lt_irrefl _ this
   rw [hf]
   by_cases e:x.1=k
   ·rw [if_neg (fun q=>q e),List.nil_append]
    refine ⟨fun p=>?_,List.pairwise_cons.2 ⟨hlt,h2⟩⟩
    rw [List.mem_cons,List.mem_cons]
    constructor
    ·rintro (q|q)
     ·exact .inl q
     ·exact .inr ⟨.inr q,fun z=>by have:=hlt p q;rw [z]at this;exact List.lt_irrefl _ this⟩
    ·rintro (q|⟨q|q,f⟩)
     ·exact .inl q
     ·exact absurd (by rw [q];exact e) f
     ·exact .inr q
   ·rw [if_pos e]
    have hkx:k<x.1:=by
     rcases bs_tri x.1 k with q|q|q
     ·exact absurd q hx
     ·exact absurd q e
     ·exact q
    refine ⟨fun p=>?_,List.pairwise_cons.2 ⟨fun p hp=>?_,List.pairwise_cons.2 ⟨h1,h2⟩⟩⟩
    ·rw [List.mem_cons,List.mem_cons,List.singleton_append]at *
     rw [List.mem_cons]
     constructor
     ·rintro (q|q|q)
      ·exact .inl q
      ·exact .inr ⟨.inl q,by rw [q];exact e⟩
      ·exact .inr ⟨.inr q,fun z=>by have:=hlt p q;rw [z]at this;exact List.lt_irrefl _ this⟩
     ·rintro (q|⟨q|q,f⟩)
      ·exact .inl q
      ·exact .inr (.inl q)
      ·exact .inr (.inr q)
    ·rcases List.mem_cons.1 hp with q|q
     ·rw [q];exact hkx
     ·exact hlt p q
theorem set_lists {l:List (Bs×V)} (h:Lists m l):Lists (put m k v) (setAux k v l false):=by
 obtain ⟨h1,h2⟩:=setAux_mem k v h.rise
 refine ⟨h2,fun k' v'=>?_⟩
 rw [h1,h.mem]
 unfold put
 constructor
 ·rintro (e|⟨e,f⟩)
  ·rw [if_pos (congrArg Prod.fst e)];exact congrArg some (congrArg Prod.snd e).symm
  ·rw [if_neg f];exact e
 ·intro e
  split at e
  ·rename_i hk
   exact .inl (by rw [hk,← Option.some.inj e])
  ·rename_i hk
   exact .inr ⟨e,hk⟩
end
end Go.Tab
namespace Go.Seg
open Go.Med
open Go.Frm (Bs Ent encs GoodE)
section
variable {K r:Nat}{L:Log}{M:Med}
end
end Go.Seg
namespace Go.Rep
open Go.Frm (Bs Ent GoodE)
open Go.Seg (Plc)
open Go.Tab
def pairsOf (es:List Ent) (kv:List (Bs×Plc)):List (Bs×Bs):=kv.map fun q=>(q.1,(objOf es q.1).getD [])
theorem pairs_lists {l:List Row}{es:List Ent}{kv:List (Bs×Plc)} (he:l.map (·.2.e)=es) (h:Lists (nowOf l) kv):Lists (objOf es) (pairsOf es kv):=by
 subst he
 refine ⟨?_,fun k v=>?_⟩
 ·unfold pairsOf
  rw [List.pairwise_map]
  exact h.rise
 ·unfold pairsOf
  rw [List.mem_map]
  obtain ⟨o1,_⟩:=nowOf_obj l k
  constructor
  ·rintro ⟨q,hq,e⟩
   have e1:q.1=k:=congrArg Prod.fst e
   have e2:(objOf (l.map (·.2.e)) q.1).getD []=v:=congrArg Prod.snd e
   rw [e1]at e2
   have hn:=(h.mem q.1 q.2).1 hq
   rw [e1]at hn
   rw [hn]at o1
   cases ho:objOf (l.map (·.2.e)) k with
   |none=>rw [ho]at o1;cases o1
   |some d=>rw [ho]at e2;exact congrArg some e2
  ·intro ho
   rw [ho]at o1
   cases hn:nowOf l k with
   |none=>rw [hn]at o1;cases o1
   |some pl=>exact ⟨(k,pl),(h.mem _ _).2 hn,by simp only;rw [ho];rfl⟩
end Go.Rep
namespace Go.Seg
open Go.Med
open Go.Frm (Bs Ent encs GoodE)
open Go.Rep
section
variable {K r E B n:Nat}{L:Log}{M:Med}{C:List (List Ent)}{k:Bs}{pl:Plc}
theorem Rp.got (h:Rp K r E B n L M C) (hk:nowOf (rowsC 0 C) k=some pl):∃ data,L.read M pl=(⟨0,k,data⟩,0)∧objOf C.flatten k=some data∧data.length≤16384∧(-9223372036854775808≤pl.at_∧pl.at_≤9223372036854775807)∧(-9223372036854775808≤pl.size∧pl.size≤9223372036854775807)∧k.length=32:=by
 obtain ⟨q,hq,e1,e2,e3,e4⟩:=nowOf_data hk
 obtain ⟨r1,r2,r3,r4⟩:=h.row hq
 rw [rowsC_e]at e4
 obtain ⟨s,⟨⟨tag,key,data⟩,at_,size⟩⟩:=q
 obtain rfl:tag=0:=e2
 obtain rfl:key=k:=e3
 refine ⟨data,by rw [← e1];exact r1,e4,?_,?_,?_,r2.2⟩
 ·rcases Frm.check_cases (Frm.encode_zero r2.1).1 with ⟨_,q⟩|⟨q,_⟩|⟨q,_⟩
  ·exact q
  ·cases q
  ·cases q
 ·rw [← e1]
  show -9223372036854775808≤(at_:Int)∧(at_:Int)≤9223372036854775807
  have:(at_:Int)≤4294967296:=r4
  omega
 ·rw [← e1]
  show -9223372036854775808≤(size:Int)∧(size:Int)≤9223372036854775807
  have:(size:Int)≤4294967296:=r3
  omega
theorem good_put (hk:k.length=32) (d:Bs) (hd:d.length≤300):(Frm.encode ⟨0,k,d⟩).2=0:=toE_good (d:=⟨0,k,d⟩) hk hd
theorem good_del (hk:k.length=32):(Frm.encode ⟨1,k,[]⟩).2=0:=toE_good (d:=⟨1,k,[]⟩) hk (Nat.zero_le _)
end
section
variable {K r E B n:Nat}{L:Log}{M:Med}{C C0:List (List Ent)}{x:Ent}
theorem HG.pop (h:HG K r E B n L M C) (hne:C≠[]):∃ s,L.l.getLast?=some s∧(L.remove M s.1).2=0∧HG (K+1) r E B n (L.remove M s.1).1.1 (L.remove M s.1).1.2 C.dropLast∧(L.remove M s.1).1.1.on=false∧(1≤L.fresh→(L.remove M s.1).1.1.fresh=L.fresh - 1)∧Hin.Grown M (L.remove M s.1).1.2∧(L.remove M s.1).1.1.limit=L.limit:=by
 have hpos:0<C.length:=List.length_pos_iff.2 hne
 have hlen:=h.len
 have hcnt:=h.count
 obtain ⟨c,hc⟩:∃ c,C.length=c+1:=⟨C.length - 1,by omega⟩
 have hce:C[c]?=some (C[c]'oQ):=List.getElem?_eq_getElem oQ
 have hat:=h.at_ c _ hce
 generalize C[c]'oQ=es at *
 refine ⟨((c:Int),8+((encs es).length:Int)),by rw [List.getLast?_eq_getElem?,show L.l.length - 1=c by omega];exact hat,?_⟩
 simp only
 have hk:L.at (c:Int)=some c:=h.at_k hce
 obtain ⟨i,hi⟩:=h.keeps.has _ (List.mem_of_getElem? hat)
 simp only at hi
 have hcb:c<1048576:=by have:=h.keeps.log.nums _ (List.mem_of_getElem? hat);simp only at this;omega
 have hr:=remove_quiet h.keeps.calm.quiet hi
 obtain ⟨a1,a2,a3,a4⟩:=Hin.remove_all h.keeps.calm hi
 have hrem:L.remove M (c:Int)=((L.without c,(M.remove (name (c:Int))).1),0):=by
  unfold Log.remove
  rw [hk]
  simp only
  rw [if_pos a1]
 have hok:=h.keeps.log.remove M (c:Int)
 have hcm:=h.keeps.calm.remove (name (c:Int))
 rw [hrem]at hok ⊢
 simp only at hok ⊢
 have hl2:(L.without c).l=L.l.take c:=by
  unfold Log.without
  simp only
  rw [List.eraseIdx_eq_take_drop_succ,List.drop_of_length_le oQ,List.append_nil]
 have hC2:C.dropLast=C.take c:=by rw [List.dropLast_eq_take,show C.length - 1=c by omega]
 have hnj:∀ k:Nat,k<c→name (k:Int)≠name (c:Int):=fun k hkc e=>by
  have:=name_inj oQ oQ oQ oQ e;omega
 have hget:∀ k:Nat,k<c→∀ j,nget (M.remove (name (c:Int))).1.now (name (k:Int))=some j↔nget M.now (name (k:Int))=some j:=fun k hkc j=>by rw [a2,nget_ne (hnj k hkc)]
 have hCk:∀ (k:Nat) (fs:List Ent),C.dropLast[k]?=some fs→k<c∧C[k]?=some fs:=fun k fs hf=>by
  rw [hC2,List.getElem?_take]at hf
  split at hf
  ·exact ⟨by omega,hf⟩
  ·cases hf
 refine ⟨trivial,⟨⟨hok,hcm,fun t ht=>?_⟩,?_,fun k fs hf=>?_,fun k fs hf=>?_,fun fs hf=>h.good fs (List.dropLast_subset _ hf),?_,?_,?_,fun k j hkk hj=>?_⟩,?_,fun hf=>?_,?_,rfl⟩
 ·rw [hl2]at ht
  obtain ⟨q,hq⟩:=List.getElem?_of_mem ht
  rw [List.getElem?_take]at hq
  split at hq
  ·rename_i hqc
   obtain ⟨j,hj⟩:=h.keeps.has t (List.mem_of_getElem? hq)
   have hat2:=h.at_ q _ (List.getElem?_eq_getElem (show q<C.length by omega))
   rw [hq]at hat2
   cases hat2
   exact ⟨j,(hget q oQ j).2 hj⟩
  ·cases hq
 ·rw [hl2,List.length_take,List.length_dropLast];omega
 ·obtain ⟨q1,q2⟩:=hCk k fs hf
  rw [hl2,List.getElem?_take,if_pos q1]
  exact h.at_ k fs q2
 ·obtain ⟨q1,q2⟩:=hCk k fs hf
  rw [a3 _ (hnj k q1)]
  exact h.file k fs q2
 ·rw [List.length_dropLast];omega
 ·exact Nat.le_trans a4 h.used
 ·rw [a2];exact Nat.le_trans (ndel_len _ _) h.names
 ·rw [List.length_dropLast]
  rw [a2]at hj
  by_cases e:k=c
  ·exfalso
   rw [e]at hj
   have:=(List.mem_filter.1 (nget_mem hj)).2
   simp [bne,beq_ba]at this
  ·rw [nget_ne (fun q=>e (by have:=name_inj oQ oQ oQ oQ q;omega))]at hj
   have:=h.cover k j hkk hj
   omega
 ·unfold Log.without
  simp only
  rw [if_pos oQ]
 ·unfold Log.without
  simp only
  rw [if_pos oQ]
 ·exact fun p hp=> .inl (Hin.remove_now hp)
structure Frs (L:Log) (C C0:List (List Ent)):Prop where
 base:Base C0 L.on C
 fresh:L.fresh=(C.length:Int) - C0.length
theorem HG.back:∀ (j:Nat){K:Nat}{L:Log}{M:Med}{C:List (List Ent)},HG K r E B n L M C→j≤C.length→L.fresh=j →
  (L.back j M).2=0∧HG (K+j) r E B n (L.back j M).1.1 (L.back j M).1.2 (C.take (C.length - j))∧(L.back j M).1.1.on=false∧(L.back j M).1.1.fresh=0∧Hin.Grown M (L.back j M).1.2∧(L.back j M).1.1.limit=L.limit
 |0,K,L,M,C,h,_,hf=>by
  unfold Log.back
  refine ⟨rfl,?_,rfl,hf,Hin.Grown.refl M,rfl⟩
  rw [Nat.sub_zero,List.take_length]
  exact ⟨⟨h.keeps.log.shutOff,h.keeps.calm,h.keeps.has⟩,h.len,h.at_,h.file,h.good,h.count,h.used,h.names,h.cover⟩
 |j+1,K,L,M,C,h,hj,hf=>by
  have hne:C≠[]:=by intro e;rw [e]at hj;simp at hj
  obtain ⟨s,hs,p1,p2,p3,p4,p5,p6⟩:=h.pop hne
  unfold Log.back
  rw [hs]
  simp only
  rw [if_pos p1]
  have hl:=List.length_dropLast (xs:=C)
  obtain ⟨b1,b2,b3,b4,b5,b6⟩:=HG.back j p2 oQ (by rw [p4 oQ];omega)
  refine ⟨b1,?_,b3,b4,p5.trans b5,b6.trans p6⟩
  rw [show K+(j+1)=K+1+j by omega]
  have e:C.dropLast.take (C.dropLast.length - j)=C.take (C.length - (j+1)):=by
   rw [hl,List.dropLast_eq_take,List.take_take]
   congr 1
   omega
  rw [← e]
  exact b2
theorem Rp.rollback (h:Rp K r E B n L M C) (hf:Frs L C C0):(L.rollback M).2=0∧Rp (K+n) r E B n (L.rollback M).1.1 (L.rollback M).1.2 C0∧Frs (L.rollback M).1.1 C0 C0∧(L.rollback M).1.1.limit=L.limit:=by
 have hle:=hf.base.le
 have hcn:=h.hg.count
 have hfr:=hf.fresh
 have e:L.fresh.toNat=C.length - C0.length:=oQ
 obtain ⟨b1,b2,b3,b4,b5,b6⟩:=HG.back (C.length - C0.length) h.hg oQ oQ
 have ht:C.take (C.length - (C.length - C0.length))=C0:=by rw [show C.length - (C.length - C0.length)=C0.length by omega];exact hf.base.pre
 rw [ht]at b2
 unfold Log.rollback
 rw [e]
 have hfew:C0.flatten.length≤n:=by
  have e1:=congrArg (fun z:List (List Ent)=>z.flatten.length) (List.take_append_drop C0.length C)
  simp only [List.flatten_append,List.length_append]at e1
  rw [hf.base.pre]at e1
  have:=h.few
  omega
 refine ⟨b1,(h.grown b2 b5 hfew).mono oQ (Nat.le_refl _) (Nat.le_refl _) (Nat.le_refl _),⟨by rw [b3];exact Base.start C0,by rw [b4];omega⟩,b6⟩
theorem Frs.start {L:Log} (ho:L.on=false) (hf:L.fresh=0):Frs L C C:=⟨by rw [ho];exact Base.start C,by rw [hf];omega⟩
theorem Rp.frs (h:Rp K r E B n L M C) (hf:Frs L C C0) (h0:(Frm.encode x).2=0) (hz:(L.append M x).2.2=0):Frs (L.append M x).1.1 (put C (L.fits (Frm.encode x).1.length) x) C0∧(L.append M x).1.1.on=true:=by
 have key:(L.append M x).1.1.on=true∧(L.append M x).1.1.fresh=L.fresh+(if L.fits (Frm.encode x).1.length=true then 0 else 1):=by
  cases hfi:L.fits (Frm.encode x).1.length with
  |true=>
   rw [Log.append_grow h0 hfi]at hz ⊢
   have hon:=fits_on' hfi
   obtain ⟨s,hl⟩:=h.hg.keeps.log.last hon
   unfold Log.grow at hz ⊢
   rw [hl]at hz ⊢
   simp only at hz ⊢
   split at hz
   ·rename_i g;rw [if_pos g];exact ⟨hon,by simp⟩
   ·rename_i g;exact absurd hz g
  |false=>
   rw [Log.append_begin h0 hfi]at hz ⊢
   obtain ⟨_,s2,_,s4,_⟩:=h.hg.keeps.shut
   unfold Log.begin at hz ⊢
   rw [if_pos s2]at hz ⊢
   generalize (L.shut M).1.1=L1 at *
   generalize (L.shut M).1.2=M1 at *
   unfold Log.begin1 at hz ⊢
   by_cases g2:1048576≤L1.next
   ·rw [if_pos g2]at hz
    exact absurd (show (16:Int)=0 from hz) dCz
   rw [if_neg g2]at hz ⊢
   by_cases g3:(M1.create (name L1.next)).2=0
   rotate_left
   ·rw [if_pos g3]at hz
    exact absurd hz g3
   rw [if_neg (fun q=>q g3)]at hz ⊢
   by_cases g4:((M1.create (name L1.next)).1.append (name L1.next) (mag++(Frm.encode x).1)).2=0
   ·rw [if_pos g4]
    exact ⟨rfl,by simp only;rw [s4];simp⟩
   rw [if_neg g4]at hz
   split at hz
   ·simp only at hz
    split at hz
    ·exact absurd hz dCz
    ·rename_i g5;exact absurd hz g5
   ·exact absurd hz g4
 refine ⟨⟨?_,?_⟩,key.1⟩
 ·exact hf.base.put fits_on' x
 ·rw [key.2,hf.fresh]
  have hne:=h.hg.fits_ne (k:=(Frm.encode x).1.length)
  unfold put
  split
  ·have:=List.length_pos_iff.2 (hne aQ)
   rw [List.length_append,List.length_dropLast,List.length_singleton];omega
  ·rw [List.length_append,List.length_singleton];omega
theorem append_onQ {L : Log} {M : Med} {x : Ent} (h0 : (Frm.encode x).2 = 0) (hz : (L.append M x).2.2 ≠ 0) (ho : (L.append M x).1.1.on = true) : L.on = true := by
  cases hf : L.fits (Frm.encode x).1.length with
  | true => exact Seg.fits_on' hf
  | false =>
    rw [Seg.Log.append_begin h0 hf] at hz ho
    have hs : (L.shut M).1.1.on = true → L.on = true := by
      unfold Log.shut
      split
      · exact fun e => e
      · split
        · rename_i q; exact fun _ => q
        · exact fun e => e
    unfold Log.begin at hz ho
    split at ho
    · rename_i e2
      rw [if_pos e2] at hz
      unfold Log.begin1 at hz ho
      split at ho; · exact hs ho
      rename_i g1; rw [if_neg g1] at hz
      split at ho; · exact hs ho
      rename_i g2; rw [if_neg g2] at hz
      split at ho
      · rename_i g3; rw [if_pos g3] at hz; exact absurd rfl hz
      split at ho <;> exact hs ho
    · exact hs ho
theorem Rp.frs_no (h:Rp K r E B n L M C) (hf:Frs L C C0) (hk:x.key.length=32) (hz:(L.append M x).2.2≠0):Frs (L.append M x).1.1 C C0:=by
 obtain ⟨k1,k2⟩:=h.hg.keeps.append x hk
 obtain ⟨k3,k4,k5,k6⟩:=k2 hz
 refine ⟨⟨hf.base.pre,fun ho=>?_⟩,by rw [k4];exact hf.fresh⟩
 by_cases h0:(Frm.encode x).2=0
 ·exact hf.base.gt (append_onQ h0 hz ho)
 ·rw [Log.append_bad h0]at ho
  exact hf.base.gt ho
end
end Go.Seg
namespace Go.Proofs.YtjbhhbnopnmcnaaGreatDoor
open Go Go.Sl Go.Med Go.MapKept Go.RowKit
structure RFac (K r0 E B0 n:Nat) (L:Seg.Log) (M:Med) (C C0:List (List Frm.Ent)) (o oc:Frm.Bs→Option Frm.Bs) (d:Bool) (B B2:Nat):Prop where
 rp:Seg.Rp K r0 E B0 n L M C
 frs:Seg.Frs L C C0
 now:o=Rep.objOf C.flatten
 was:oc=Rep.objOf C0.flatten
 clean:d=false→o=oc
 b1:B≤n
 b2:B2≤n
def RSt (w0:World) (r m:Nat) (seg:Int) (K r0 E n:Nat) (o oc:Frm.Bs→Option Frm.Bs) (d:Bool) (F:List HProp) (w:World):Prop:=
 ∃ (ps p pn pi B B2 B0:Nat) (uv tv:Value) (N:Int) (us:List Rep.Use) (L:Seg.Log) (M:Med) (C C0:List (List Frm.Ent)),RFac K r0 E B0 n L M C C0 o oc d B B2 ∧
  Sat w0 w (rpPt r m seg p ps pn d::TabML pn (Rep.nowOf (Rep.rowsC 0 C)) B::LogRep p m L::MedRep m M::stPt ps N pi uv tv::TabML pi (Rep.nowOf (Rep.rowsC 0 C0)) B2::osl 113 3 uv (us.flatMap uenc)::F)
theorem sizeE {K:Nat}{M:Med} (h:M.Ok K) (ho:M.off=false):M.size ByteArray.empty=(0,9):=by
 have hn:nget M.now ByteArray.empty=none:=by
  cases hi:nget M.now ByteArray.empty with
  |none=>rfl
  |some i=>exact absurd rfl (h.nowOk.ne _ (nget_mem hi))
 unfold Med.size
 rw [ho,hn];rfl
section
variable {w0 w:World}{F:List HProp}{r m K r0 E n:Nat}{seg:Int}{o oc:Frm.Bs→Option Frm.Bs}{d:Bool}{k:Frm.Bs}
theorem RFac.mono {B0:Nat}{L:Seg.Log}{M:Med}{C C0:List (List Frm.Ent)}{B B2 K' E' n':Nat} (h:RFac K r0 E B0 n L M C C0 o oc d B B2) (h1:K≤K') (h2:E≤E') (h3:n≤n'):RFac K' r0 E' B0 n' L M C C0 o oc d B B2:=
 ⟨h.rp.mono h1 h2 (Nat.le_refl _) h3,h.frs,h.now,h.was,h.clean,Nat.le_trans h.b1 h3,Nat.le_trans h.b2 h3⟩
theorem RSt.mono {K' E' n':Nat} (h:RSt w0 r m seg K r0 E n o oc d F w) (h1:K≤K') (h2:E≤E') (h3:n≤n'):RSt w0 r m seg K' r0 E' n' o oc d F w:=by
 obtain ⟨ps,p,pn,pi,B,B2,B0,uv,tv,N,us,L,M,C,C0,hf,hS⟩:=h
 exact ⟨ps,p,pn,pi,B,B2,B0,uv,tv,N,us,L,M,C,C0,hf.mono h1 h2 h3,hS⟩
theorem RSt.sat (h:RSt w0 r m seg K r0 E n o oc d F w):∃ L:List HProp,Sat w0 w L∧(∀ (A:HProp) (w':World),Sat w0 w' (A::L)→RSt w0 r m seg K r0 E n o oc d (A::F) w')∧(∀ w',Sat w0 w' L→Sat w0 w' F):=by
 obtain ⟨ps,p,pn,pi,B,B2,B0,uv,tv,N,us,L,M,C,C0,hf,hS⟩:=h
 exact ⟨_,hS,fun A w' hw=>⟨ps,p,pn,pi,B,B2,B0,uv,tv,N,us,L,M,C,C0,hf,hw.sb⟩,fun w' hw=>hw.sb⟩
theorem RSt.drop {A:HProp} (h:RSt w0 r m seg K r0 E n o oc d (A::F) w):RSt w0 r m seg K r0 E n o oc d F w:=by
 obtain ⟨ps,p,pn,pi,B,B2,B0,uv,tv,N,us,L,M,C,C0,hf,hS⟩:=h
 exact ⟨ps,p,pn,pi,B,B2,B0,uv,tv,N,us,L,M,C,C0,hf,hS.sb⟩
theorem sput_c (hn:n≤200) (hE:E≤200) (hK:K≤1048576) (hk:k.length=32) (data:Frm.Bs) (da:Option Addr) (dc:Nat) (hd:Ro w0 F (rdsl 1 (.slice da data.length dc) (bys data))) (hLd:data.length≤300) (hH:Ro w0 F Half) (h:RSt w0 r m seg K r0 E n o oc d F w) :
  Calls Tryz.prog 19 #[ptr r,.agg (bys k).toArray,.slice da data.length dc] w (Rtn fun v w'=>(v=errno 0∧RSt w0 r m seg (K+4) r0 E (n+1) (Tab.put o k data) oc true F w')∨(v=errno 11∧RSt w0 r m seg (K+4) r0 E n o oc d F w')):=by
 obtain ⟨ps,p,pn,pi,B,B2,B0,uv,tv,N,us,L,M,C,C0,hf,hS⟩:=h
 have he:=Seg.good_put hk data hLd
 have hnm:=hf.rp.hg.names
 rcases hf.rp.hg.append_err (x:=⟨0,k,data⟩) oQ oQ he with hz|hz
 ·obtain ⟨C',y1,y2,y3,row,y4,y5,y6⟩:=hf.rp.yes (x:=⟨0,k,data⟩) oQ hk hLd he hz
  obtain ⟨fr,_⟩:=hf.rp.frs hf.frs he hz
  rw [← y2]at fr
  have hnow:Tab.put (Rep.nowOf (Rep.rowsC 0 C)) k (L.append M ⟨0,k,data⟩).2.1=Rep.nowOf (Rep.rowsC 0 C'):=by
   rw [y4,Rep.nowOf_put (by unfold Rep.rtag;rw [y5]),y6]
   unfold Rep.rkey
   rw [y5]
  refine (rpput_c (by have:=hf.b1;omega) hk data da dc (Ro.os hd) oQ hf.rp.hg.keeps.log hf.rp.hg.keeps.calm.ok oQ (Ro.os hH) hz (hS.sb:Sat w0 w (rpPt r m seg p ps pn d::TabML pn (Rep.nowOf (Rep.rowsC 0 C)) B::LogRep p m L::MedRep m M::stPt ps N pi uv tv::TabML pi (Rep.nowOf (Rep.rowsC 0 C0)) B2::osl 113 3 uv (us.flatMap uenc)::F))).mono ?_
  rintro e w' ⟨v,rfl,rfl,h2⟩
  rw [hnow]at h2
  refine ⟨_,rfl,.inl ⟨rfl,ps,p,pn,pi,B+1,B2,B0,uv,tv,N,us,_,_,C',C0,⟨y1,fr,?_,hf.was,fun e=>(by cases e),by have:=hf.b1;omega,by have:=hf.b2;omega⟩,h2⟩⟩
  rw [y3,Rep.objOf_put rfl,hf.now]
 ·have hz':(L.append M ⟨0,k,data⟩).2.2≠0:=by rw [hz];decide
  refine (rpputE_c (by have:=hf.b1;omega) hk data da dc (Ro.os hd) oQ hf.rp.hg.keeps.log hf.rp.hg.keeps.calm.ok oQ (Ro.os hH) hz' (hS.sb:Sat w0 w (rpPt r m seg p ps pn d::TabML pn (Rep.nowOf (Rep.rowsC 0 C)) B::LogRep p m L::MedRep m M::stPt ps N pi uv tv::TabML pi (Rep.nowOf (Rep.rowsC 0 C0)) B2::osl 113 3 uv (us.flatMap uenc)::F))).mono ?_
  rintro e w' ⟨v,rfl,rfl,h2⟩
  rw [hz]
  exact ⟨_,rfl,.inr ⟨rfl,ps,p,pn,pi,B,B2,B0,uv,tv,N,us,_,_,C,C0,⟨hf.rp.no hk hz',hf.rp.frs_no hf.frs hk hz',hf.now,hf.was,hf.clean,hf.b1,hf.b2⟩,h2⟩⟩
theorem sdel_c (hn:n≤200) (hE:E≤200) (hK:K≤1048576) (hk:k.length=32) (hH:Ro w0 F Half) (h:RSt w0 r m seg K r0 E n o oc d F w) :
  Calls Tryz.prog 36 #[ptr r,.agg (bys k).toArray] w (Rtn fun v w'=>(v=errno 0∧RSt w0 r m seg (K+4) r0 E (n+1) (Tab.del o k) oc true F w')∨((v=errno 11∨v=errno 9)∧RSt w0 r m seg (K+4) r0 E n o oc d F w')):=by
 obtain ⟨ps,p,pn,pi,B,B2,B0,uv,tv,N,us,L,M,C,C0,hf,hS⟩:=h
 have he:=Seg.good_del hk
 have hnm:=hf.rp.hg.names
 have hS':Sat w0 w (rpPt r m seg p ps pn d::TabML pn (Rep.nowOf (Rep.rowsC 0 C)) B::LogRep p m L::MedRep m M::stPt ps N pi uv tv::TabML pi (Rep.nowOf (Rep.rowsC 0 C0)) B2::osl 113 3 uv (us.flatMap uenc)::F):=hS
 cases hm:Rep.nowOf (Rep.rowsC 0 C) k with
 |none=>
  refine (rpdelN_c (by have:=hf.b1;omega) hk hm hS').mono ?_
  rintro e w' ⟨v,rfl,rfl,h2⟩
  exact ⟨_,rfl,.inr ⟨.inr rfl,ps,p,pn,pi,B,B2,B0,uv,tv,N,us,_,_,C,C0,hf.mono oQ (Nat.le_refl _) (Nat.le_refl _),h2⟩⟩
 |some pl=>
  rcases hf.rp.hg.append_err (x:=⟨1,k,[]⟩) oQ oQ he with hz|hz
  ·obtain ⟨C',y1,y2,y3,row,y4,y5,y6⟩:=hf.rp.yes (x:=⟨1,k,[]⟩) oQ hk (Nat.zero_le _) he hz
   obtain ⟨fr,_⟩:=hf.rp.frs hf.frs he hz
   rw [← y2]at fr
   have hnow:Tab.del (Rep.nowOf (Rep.rowsC 0 C)) k=Rep.nowOf (Rep.rowsC 0 C'):=by
    rw [y4,Rep.nowOf_del (by unfold Rep.rtag;rw [y5])]
    unfold Rep.rkey
    rw [y5]
   refine (rpdelY_c (by have:=hf.b1;omega) hk pl hm hf.rp.hg.keeps.log hf.rp.hg.keeps.calm.ok oQ (Ro.os hH) hz hS').mono ?_
   rintro e w' ⟨v,rfl,rfl,h2⟩
   rw [hnow]at h2
   refine ⟨_,rfl,.inl ⟨rfl,ps,p,pn,pi,B,B2,B0,uv,tv,N,us,_,_,C',C0,⟨y1,fr,?_,hf.was,fun e=>(by cases e),by have:=hf.b1;omega,by have:=hf.b2;omega⟩,h2⟩⟩
   rw [y3,Rep.objOf_del rfl,hf.now]
  ·have hz':(L.append M ⟨1,k,[]⟩).2.2≠0:=by rw [hz];decide
   refine (rpdelE_c (by have:=hf.b1;omega) hk pl hm hf.rp.hg.keeps.log hf.rp.hg.keeps.calm.ok oQ (Ro.os hH) hz' hS').mono ?_
   rintro e w' ⟨v,rfl,rfl,h2⟩
   rw [hz]
   exact ⟨_,rfl,.inr ⟨.inl rfl,ps,p,pn,pi,B,B2,B0,uv,tv,N,us,_,_,C,C0,⟨hf.rp.no hk hz',hf.rp.frs_no hf.frs hk hz',hf.now,hf.was,hf.clean,hf.b1,hf.b2⟩,h2⟩⟩
theorem scom_c (hn:n≤199) (hE:E≤200) (hK:K≤1048576) (hH:Ro w0 F Half) (h:RSt w0 r m seg K r0 E n o oc d F w) :
  Calls Tryz.prog 37 #[ptr r] w (Rtn fun v w'=>(v=errno 0∧RSt w0 r m seg (K+605) r0 (E+2) (n+1) o o false F w')∨(v=errno 11∧RSt w0 r m seg (K+605) r0 E n o oc d F w')):=by
 obtain ⟨ps,p,pn,pi,B,B2,B0,uv,tv,N,us,L,M,C,C0,hf,hS⟩:=h
 have hS':Sat w0 w (rpPt r m seg p ps pn d::TabML pn (Rep.nowOf (Rep.rowsC 0 C)) B::LogRep p m L::MedRep m M::stPt ps N pi uv tv::TabML pi (Rep.nowOf (Rep.rowsC 0 C0)) B2::osl 113 3 uv (us.flatMap uenc)::F):=hS
 have hnm:=hf.rp.hg.names
 cases d with
 |false=>
  refine (rpcomC_c hS').mono ?_
  rintro e w' ⟨v,rfl,rfl,rfl⟩
  have hoc:o=oc:=hf.clean rfl
  refine ⟨_,rfl,.inl ⟨rfl,?_⟩⟩
  have h2:RSt w0 r m seg K r0 E n o oc false F w:=⟨ps,p,pn,pi,B,B2,B0,uv,tv,N,us,L,M,C,C0,hf,hS⟩
  rw [← hoc]at h2
  exact h2.mono oQ oQ oQ
 |true=>
  rcases hf.rp.hg.append_err (x:=Seg.comEnt) oQ oQ rFz with hz|hz
  ·refine (rpcomY_c hf.rp oQ hE hK hz (Ro.os hH) hS').mono ?_
   rintro e w' ⟨v,rfl,ps',pi',B2',uv',tv',N',us',pl,M3,C2,rfl,⟨hc,ta,tc,rfl⟩,h2⟩
   obtain ⟨row,y4,y5⟩:=hc.row
   have hnow:Rep.nowOf (Rep.rowsC 0 C)=Rep.nowOf (Rep.rowsC 0 C2):=by
    rw [y4,Rep.nowOf_com (by unfold Rep.rtag;rw [y5];rfl)]
   have hobj:o=Rep.objOf C2.flatten:=by rw [hc.flat,Rep.objOf_com rfl,hf.now]
   obtain ⟨cz,_⟩:=hf.rp.commit oQ hz
   obtain ⟨_,_,cf,_⟩:=Seg.commit_waits hf.rp.hg.keeps cz
   rw [hc.now,hnow]at h2
   exact ⟨_,rfl,.inl ⟨rfl,ps',p,pn,pi',B,B2',B0+100000,uv',_,N',us',_,M3,C2,C2,⟨hc.rp,Seg.Frs.start hc.off cf,hobj,hobj,fun _=>rfl,by have:=hf.b1;omega,hc.len.1⟩,h2.sb⟩⟩
  ·have hz':(L.append M Seg.comEnt).2.2≠0:=by rw [hz];decide
   obtain ⟨n1,n2⟩:=hf.rp.commit_no hz'
   have hc:(L.commit M).2.2≠0:=by rw [n1];exact hz'
   refine (rpcomN_c hf.rp.hg.keeps.log hf.rp.hg.keeps.calm.ok oQ (Ro.os hH) hc (hS'.sb:Sat w0 w (rpPt r m seg p ps pn true::LogRep p m L::MedRep m M::TabML pn (Rep.nowOf (Rep.rowsC 0 C)) B::stPt ps N pi uv tv::TabML pi (Rep.nowOf (Rep.rowsC 0 C0)) B2::osl 113 3 uv (us.flatMap uenc)::F))).mono ?_
   rintro e w' ⟨v,rfl,rfl,h2⟩
   rw [n1,hz]
   rw [n2]at h2
   exact ⟨_,rfl,.inr ⟨rfl,ps,p,pn,pi,B,B2,B0,uv,tv,N,us,_,_,C,C0,⟨(hf.rp.no rfl hz').mono oQ (Nat.le_refl _) (Nat.le_refl _) (Nat.le_refl _),hf.rp.frs_no hf.frs rfl hz',hf.now,hf.was,hf.clean,hf.b1,hf.b2⟩,h2.sb⟩⟩
theorem srol_c (hn:n≤200) (hK:K≤1048576) (h:RSt w0 r m seg K r0 E n o oc d F w) :
  Calls Tryz.prog 20 #[ptr r] w (Rtn fun v w'=>v=errno 0∧RSt w0 r m seg (K+200) r0 E n oc oc false F w'):=by
 obtain ⟨ps,p,pn,pi,B,B2,B0,uv,tv,N,us,L,M,C,C0,hf,hS⟩:=h
 obtain ⟨b1,b2,b3,_⟩:=hf.rp.rollback hf.frs
 refine (rprolY_c hf.rp.hg.keeps.log hf.rp.hg.keeps.calm.ok oQ (by have:=hf.b2;omega) b1 (hS.sb:Sat w0 w (rpPt r m seg p ps pn d::stPt ps N pi uv tv::TabML pi (Rep.nowOf (Rep.rowsC 0 C0)) B2::LogRep p m L::MedRep m M::osl 113 3 uv (us.flatMap uenc)::F))).mono ?_
 rintro e w' ⟨v,rfl,q,rfl,h2⟩
 exact ⟨_,rfl,rfl,ps,p,q,pi,B2,B2,B0,uv,tv,N,us,_,_,C0,C0,⟨b2.mono oQ (Nat.le_refl _) (Nat.le_refl _) (Nat.le_refl _),b3,hf.was,hf.was,fun _=>rfl,hf.b2,hf.b2⟩,h2.sb⟩
theorem sdirty_c (h:RSt w0 r m seg K r0 E n o oc d F w):Calls Tryz.prog 21 #[ptr r] w (Rtn fun v w'=>v = .bool d∧w=w'):=by
 obtain ⟨ps,p,pn,pi,B,B2,B0,uv,tv,N,us,L,M,C,C0,hf,hS⟩:=h
 exact rpdirty_c hS
theorem sopen_c {M:Med}{limit:Int}{K:Nat} (h1:128≤limit) (h2:limit≤1048576) (hM:Seg.Calm K r0 M) (hK:K≤1048576) (hnow:M.now=[]) (hH:Ro w0 F Half) (h:Sat w0 w (MedRep m M::F)) :
  Calls Tryz.prog 10 #[ptr m,.int .i64 limit] w (Rtn fun v w'=>∃ r,v = .tuple #[ptr r,.agg (fltA Rep.Flt.zero),errno 0]∧RSt w0 r m limit K r0 0 0 (fun _=>none) (fun _=>none) false F w'):=by
 have hl:M.list=[]:=by rw [hM.quiet.list,hnow];rfl
 have hfr:Seg.fresh M limit=⟨limit,[],false,0⟩:=by
  unfold Seg.fresh Seg.found
  rw [hl]
  rfl
 have ha:Seg.alive M=0:=by unfold Seg.alive;rw [sizeE hM.ok hM.quiet.off];rfl
 have hu:M.used=0:=by unfold Med.used;rw [hnow];rfl
 refine (ropen0_c h1 h2 hM.ok hK ha (by rw [hfr];rfl) hl hH h).mono ?_
 rintro e w' ⟨v,rfl,r,p,ps,pi,pn,uv,rfl,hS⟩
 have hok:=Seg.fresh_ok hM.ok limit h1 h2
 rw [hfr]at hS hok
 refine ⟨_,rfl,r,rfl,ps,p,pn,pi,0,0,0,uv,_,-1,[],_,M,[],[],⟨⟨⟨⟨hok,hM,fun s hs=>by cases hs⟩,rfl,fun k es hk=>(by simp at hk),fun k es hk=>(by simp at hk),fun es he=>(by cases he),Nat.le_refl _,by rw [hu];omega,by rw [hnow];exact Nat.le_refl _,fun k i hk hi=>by rw [hnow]at hi;cases hi⟩,by rw [hnow];rfl,Nat.le_refl _,fun p hp=>by rw [hnow]at hp;cases hp⟩,Seg.Frs.start rfl rfl,rfl,rfl,fun _=>rfl,Nat.le_refl _,Nat.le_refl _⟩,hS.sb⟩
end
end Go.Proofs.YtjbhhbnopnmcnaaGreatDoor
namespace Go.Rep
open Go.Frm (Bs)
structure Qal where
 kind:Int
 key:Bs
 data:Bs
 n:Int
 m:Int
 l:List Int
def Qal.cut (c:Qal):Qal:=⟨c.kind,c.key,c.data.take 200,c.n,c.m,c.l.take 60⟩
def fewQ (l:List Qal) (n:Nat):List Qal:=(l.take n).map Qal.cut
end Go.Rep
namespace Go.Proofs.YtjbhhbnopnmcnaaGreatDoor
open Go Go.Sl Go.Med Go.MapKept Go.RowKit
structure QD where
 c:Rep.Qal
 dv:Value
 lv:Value
def qdL (d:QD):List Value:=(.int .i64 d.c.kind::bys d.c.key)++d.dv::[.int .i64 d.c.n,.int .i64 d.c.m,d.lv]
def qdA (d:QD):Array Value:=(qdL d).toArray
def qdsL (ds:List QD):List Value:=ds.flatMap qdL
structure QDRo (w0:World) (F:List HProp) (d:QD):Prop where
 key:d.c.key.length=32
 rd:Ro w0 F (rdsl 1 d.dv (bys d.c.data))
 cap:capOk d.dv
 rl:Ro w0 F (rdsl 1 d.lv (ints d.c.l))
 capl:capOk d.lv
theorem QDRo.of_sub {w0:World}{F G:List HProp}{d:QD} (h:QDRo w0 F d) (hs:∀ w,Sat w0 w G→Sat w0 w F):QDRo w0 G d:=
 ⟨h.key,fun w hw=>h.rd w (hs w hw),h.cap,fun w hw=>h.rl w (hs w hw),h.capl⟩
def zeroQ:QD:=⟨⟨0,Frm.zero32,[],0,0,[]⟩,.slice none 0 0,.slice none 0 0⟩
theorem zQo:zeroB Tryz.prog 41=some (.agg (qdA zeroQ)):=by kernel_rfl
theorem infoQo:(Tryz.prog.info? 41).map (·.size)=some 37:=by kernel_rfl
theorem qdL_len (d:QD) (hk:d.c.key.length=32):(qdL d).length=37:=by
 unfold qdL
 rw [List.length_append,List.length_cons,bys_len,hk];rfl
theorem qdA_size (d:QD) (hk:d.c.key.length=32):(qdA d).size=37:=by unfold qdA;rw [List.size_toArray,qdL_len d hk]
theorem qd_head (d:QD) (hk:d.c.key.length=32):(Value.int .i64 d.c.kind::bys d.c.key).length=33:=by rw [List.length_cons,bys_len,hk]
theorem qdL_kind (d:QD):(qdL d)[0]?=some (.int .i64 d.c.kind):=rfl
theorem qdL_key (d:QD){j:Nat}{v:Value} (h:(bys d.c.key)[j]?=some v):(qdL d)[1+j]?=some v:=by
 unfold qdL
 rw [Nat.add_comm,List.cons_append,List.getElem?_cons_succ,List.getElem?_append_left (List.getElem?_eq_some_iff.1 h).1]
 exact h
theorem qdL_tail (d:QD) (hk:d.c.key.length=32) (j:Nat):(qdL d)[33+j]?=(d.dv::[.int .i64 d.c.n,.int .i64 d.c.m,d.lv]:List Value)[j]?:=by
 unfold qdL
 have h:=qd_head d hk
 rw [List.getElem?_append_right oQ,h,Nat.add_sub_cancel_left]
theorem putsAt_mid (l1 l2:List Value) (x y:Value){i:Nat} (hi:l1.length=i):putsAt (l1++x::l2).toArray i [y]=(l1++y::l2).toArray:=by
 subst hi
 apply putsAt_eq
 rw [putsAt_list _ _ _ (by simp)]
 simp only [List.length_singleton]
 rw [List.take_left,List.drop_append,List.drop_of_length_le oQ,Nat.add_sub_cancel_left,List.nil_append,List.drop_succ_cons,List.drop_zero,List.append_assoc,List.singleton_append]
theorem puts_qd (d:QD) (hk:d.c.key.length=32) (b:Frm.Bs) (dv:Value):putsAt (qdA d) 33 [dv]=qdA ⟨⟨d.c.kind,d.c.key,b,d.c.n,d.c.m,d.c.l⟩,dv,d.lv⟩:=
 putsAt_mid _ _ _ _ (qd_head d hk)
theorem puts_ql (d:QD) (hk:d.c.key.length=32) (l:List Int) (lv:Value):putsAt (qdA d) 36 [lv]=qdA ⟨⟨d.c.kind,d.c.key,d.c.data,d.c.n,d.c.m,l⟩,d.dv,lv⟩:=by
 have e:∀ d:QD,qdL d=((.int .i64 d.c.kind::bys d.c.key)++[d.dv,.int .i64 d.c.n,.int .i64 d.c.m])++d.lv::[]:=fun d=>by
  unfold qdL;rw [List.append_assoc];rfl
 unfold qdA
 rw [e,e]
 exact putsAt_mid _ _ _ _ (by rw [List.length_append,qd_head d hk];rfl)
theorem qdA_d (d:QD) (hk:d.c.key.length=32):(qdA d).getD 33 undef=d.dv:=by
 have:=qdL_tail d hk 0
 rw [Array.getD_eq_getD_getElem?]
 unfold qdA
 rw [List.getElem?_toArray,this];rfl
theorem qdA_l (d:QD) (hk:d.c.key.length=32):(qdA d).getD 36 undef=d.lv:=by
 have:=qdL_tail d hk 3
 rw [Array.getD_eq_getD_getElem?]
 unfold qdA
 rw [List.getElem?_toArray,this];rfl
theorem qdsL_at {ds:List QD} (hk:∀ d∈ds,d.c.key.length=32){i:Nat}{d:QD} (hi:ds[i]?=some d){j:Nat}{y:Value} (hj:(qdL d)[j]?=some y):(qdsL ds)[i * 37+j]?=some y:=by
 induction ds generalizing i with
 |nil=>simp at hi
 |cons x ds ih=>
  have hx:=qdL_len x (hk x (.head _))
  unfold qdsL at *
  rw [List.flatMap_cons]
  cases i with
  |zero=>
   obtain rfl:x=d:=by simpa using hi
   rw [List.getElem?_append_left (by have:=(List.getElem?_eq_some_iff.1 hj).1;omega),Nat.zero_mul,Nat.zero_add]
   exact hj
  |succ i=>
   rw [List.getElem?_append_right (by rw [hx];omega),hx,show (i+1) * 37+j - 37=i * 37+j by omega]
   exact ih (fun d hd=>hk d (.tail _ hd)) (by simpa using hi)
theorem qdsL_len {ds:List QD} (hk:∀ d∈ds,d.c.key.length=32):(qdsL ds).length=37 * ds.length:=by
 unfold qdsL
 induction ds with
 |nil=>rfl
 |cons x ds ih=>rw [List.flatMap_cons,List.length_append,qdL_len x (hk x (.head _)),ih (fun d hd=>hk d (.tail _ hd)),List.length_cons];omega
theorem qdsL_snoc (ds:List QD) (d:QD):qdsL (ds++[d])=qdsL ds++(qdA d).toList:=by unfold qdsL qdA;rw [List.flatMap_append];simp
def dataQ (ds:List QD):HProp:=stars (ds.map fun d=>bsl d.dv d.c.data)
theorem dataQ_snoc (ds:List QD) (d:QD):dataQ (ds++[d])=star (bsl d.dv d.c.data) (dataQ ds):=by
 unfold dataQ
 rw [List.map_append,stars_append,star_comm]
 show star (stars [bsl d.dv d.c.data]) _=_
 rw [stars_one]
theorem qdA_ones (d:QD){a1 a2:Option Addr}{n1 n2 c1 c2:Nat} (h1:d.dv = .slice a1 n1 c1) (h2:d.lv = .slice a2 n2 c2):(qdA d).toList.all (·.oneCell')=true:=by
 unfold qdA qdL
 have hb:(bys d.c.key).all (·.oneCell')=true:=bys_ones _
 rw [List.toList_toArray,List.all_append,List.all_cons,hb,h1,h2]
 rfl
section
variable {w0 w:World}{F R:List HProp}{v bv dv x lv:Value}
theorem fewQ_keys {ds es:List QD}{i:Nat} (h:es.map (·.c)=((ds.map (·.c)).take i).map Rep.Qal.cut) (hk:∀ p∈ds,p.c.key.length=32):∀ p∈es,p.c.key.length=32:=by
 intro p hp
 have h1:p.c∈es.map (·.c):=List.mem_map.2 ⟨p,hp,rfl⟩
 rw [h,List.mem_map]at h1
 obtain ⟨x,hx,he⟩:=h1
 obtain ⟨q,hq,rfl⟩:=List.mem_map.1 (List.mem_of_mem_take hx)
 rw [← he]
 exact hk q hq
set_option maxRecDepth 20000 in
theorem fewQ_c (ds:List QD) (n:Nat) (hn:n≤1048576) (hr:Ro w0 F (rdsl 37 lv (qdsL ds))) (he:∀ d∈ds,QDRo w0 F d) (h:Sat w0 w F) :
  Calls Tryz.prog 7 #[lv,.int .i64 n] w (Rtn fun v w'=>∃ (es:List QD) (ov:Value),v=ov∧es.map (·.c)=Rep.fewQ (ds.map (·.c)) n∧(∀ d∈es,Ro w0 F (rdsl 1 d.lv (ints d.c.l))∧capOk d.lv) ∧
   Sat w0 w' (osl 41 37 ov (qdsL es)::dataQ es::F)):=by
 obtain ⟨la,ln,lc,rfl,hl,_⟩:=hr w h
 rw [qdsL_len (fun p hp=>(he p hp).key)]at hl
 obtain rfl:ln=ds.length:=by omega
 have Hr:=uQ hr;have He:=uQ he;have Hn:=uQ hn
 clear hr he hl hn
 go_enter Tryz.func7,Tryz.ntmps7
 go_wp2_with fail
 go_loopg [5,6] ds.length (fun g ov iq wr=>∃ (i:Nat) (es:List QD),g=ds.length - i∧i≤ds.length∧i≤n∧iq = .int .i64 i∧es.map (·.c)=((ds.map (·.c)).take i).map Rep.Qal.cut∧(∀ d∈es,Ro w0 F (rdsl 1 d.lv (ints d.c.l))∧capOk d.lv) ∧
  Sat w0 wr (osl 41 37 ov (qdsL es)::dataQ es::F))
 case atStart=>exact ⟨0,[],rfl,Nat.zero_le _,Nat.zero_le _,rfl,rfl,(fun d hd=>by cases hd),Sat.osl_nil.2 (Sat.emp.2 h)⟩
 case round=>
  obtain ⟨i,es,rfl,hi,hin,rfl,hfs,hls,hS⟩:=hrel
  have Hfs:=uQ hfs;have Hi:=uQ hi;have Hin:=uQ hin;have Hls:=uQ hls
  clear h hfs hi hin hls
  by_cases hlt:i<ds.length∧i<n
  ·obtain ⟨hl1,hl2⟩:=hlt
   have c1:(i:Int)<(ds.length:Int):=oQ
   have c2:(i:Int)<(n:Int):=oQ
   have hwi:IntKind.i64.wrap ((i:Int)+1)=(i:Int)+1:=IntWalk.i64_in _ (by have:=Hn.out;omega)
   have Hl1:=uQ hl1;have Hl2:=uQ hl2
   have Hfk:=uQ (fewQ_keys Hfs.out (fun p hp=>(He.out p hp).key))
   clear hl1 hl2
   obtain ⟨x,hx⟩:∃ x,ds[i]?=some x:=⟨_,List.getElem?_eq_getElem Hl1.out⟩
   have hxe:=He.out x (List.mem_of_getElem? hx)
   have hk:∀ p∈ds,p.c.key.length=32:=fun p hp=>(He.out p hp).key
   have hcut:=uQ (show es.map (·.c)++[x.c.cut]=((ds.map (·.c)).take (i+1)).map Rep.Qal.cut by
    rw [Hfs.out,List.take_add_one,List.map_append,List.getElem?_map,hx];rfl)
   have hrF:Ro w0 (osl 41 37 u5 (qdsL es)::dataQ es::F) (rdsl 37 (.slice la ds.length lc) (qdsL ds)):=Ro.os Hr.out
   have hx0:(qdsL ds)[i * 37+0]?=some (.int .i64 x.c.kind):=qdsL_at hk hx rfl
   obtain ⟨bk,off,rfl,_⟩:=rdsl_cells (hrF _ hS) hx0
   have HG:=uQ (show ∀ w' L,Ro w0 L (rdsl 37 (.slice (some ⟨bk,off,none⟩) ds.length lc) (qdsL ds))→Sat w0 w' L→∀ j v,(qdL x)[j]?=some v→w'.cell? ⟨bk,off+i * 37+j,none⟩=some v by
    intro w' L hL hw j v hj
    obtain ⟨bk',off',hbo,hcell⟩:=rdsl_cells (hL w' hw) hx0
    cases hbo
    have:=hcell _ _ (qdsL_at hk hx hj)
    rw [← Nat.add_assoc]at this
    exact this)
   obtain ⟨⟨kind,key,data,xn,xm,xl⟩,dv,lv⟩:=x
   obtain ⟨hkey,hrd,hcap,hrl,hcapl⟩:=hxe
   obtain ⟨da,dn,dc,rfl,hdn,hdc⟩:=hcap
   obtain ⟨la2,ln2,lc2,rfl,hln2,hlc2⟩:=hcapl
   have hdl:dn=data.length:=by
    obtain ⟨a',n',c',he,hl,_⟩:=hrd _ (hS.sb)
    cases he
    rw [bys_len,Nat.mul_one]at hl;exact hl.symm
   subst hdl
   have Hrd:=uQ hrd;have Hrl:=uQ hrl;have Hkey:=uQ (show key.length=32 from hkey)
   have Hones:=uQ (qdA_ones ⟨⟨kind,key,data,xn,xm,xl⟩,.slice da data.length dc,.slice la2 ln2 lc2⟩ rfl rfl)
   have Hsize:=uQ (qdA_size ⟨⟨kind,key,data,xn,xm,xl⟩,.slice da data.length dc,.slice la2 ln2 lc2⟩ hkey)
   clear hx hk hrF hx0 hrd hrl hkey
   generalize hd1:(⟨⟨kind,key,data,xn,xm,xl⟩,.slice da data.length dc,.slice la2 ln2 lc2⟩:QD)=d1 at HG Hones Hsize
   have hd1k:d1.c.key.length=32:=by rw [← hd1];exact Hkey.out
   have hd1d:d1.dv = .slice da data.length dc:=by rw [← hd1]
   have hd1l:d1.lv = .slice la2 ln2 lc2:=by rw [← hd1]
   have Hd1:=uQ hd1;have Hd1k:=uQ hd1k;have Hd1d:=uQ hd1d;have Hd1l:=uQ hd1l
   clear hd1 hd1k hd1d hd1l
   go_wp2_with (first
    |((with_reducible refine at_load ⟨?_⟩);refine wl_loadW (b:=bk) (o:=off+i * 37) (qdL d1) rFz (HG.out _ _ (Ro.os Hr.out) hS) Tryz.underlying41 rfl (by rw [qdL_len _ Hd1k.out];exact infoQo) ?_)
    |(with_reducible apply at_alloc))
   refine ⟨wl_alloc zQo hS rfl ?_⟩
   intro q w1 hS1
   go_wp2_with (with_reducible apply at_store)
   refine ⟨wl_storeA (qdA d1) hS1 (cs:=qdA zeroQ) rFz rFz (Hsize.out.trans (qdA_size zeroQ rfl).symm) upD (by rw [Hsize.out];exact infoQo) Hones.out ?_⟩
   intro w2 hS2
   clear hS hS1
   go_wp2_with ((with_reducible refine at_load ⟨?_⟩);refine wl_load1 (b:=q) (o:=33) (v:= .slice da data.length dc) hS2 rFz pkD (by rw [Hsize.out];decide) (by rw [qdA_d _ Hd1k.out,Hd1d.out]) kRz ?_)
   refine (cut_c da data.length dc 200 hdn hdc _).mono ?_
   rintro ee w3 ⟨v,rfl,rfl,rfl⟩
   go_wp2_with fail
   refine (copy_c hS2 (data.take 200) (rdsl_cut ((Ro.os Hrd.out) _ hS2)) (by rw [List.length_take];omega)).mono ?_
   rintro ee w4 ⟨v,rfl,hS4,ca,cn,cc,rfl⟩
   obtain ⟨d2,hd2⟩:∃ d2:QD,d2=⟨⟨d1.c.kind,d1.c.key,data.take 200,d1.c.n,d1.c.m,d1.c.l⟩,.slice ca cn cc,d1.lv⟩:=⟨_,rfl⟩
   have hp2:putsAt (qdA d1) 33 [.slice ca cn cc]=qdA d2:=by rw [puts_qd _ Hd1k.out (data.take 200),hd2]
   have hd2k:d2.c.key.length=32:=by rw [hd2];exact Hd1k.out
   have hd2l:d2.lv = .slice la2 ln2 lc2:=by rw [hd2];exact Hd1l.out
   have Hp2:=uQ hp2;have Hd2:=uQ hd2;have Hd2k:=uQ hd2k;have Hd2l:=uQ hd2l
   clear hp2 hd2 hd2k hd2l hS2
   go_wp2_with (with_reducible apply at_store)
   refine ⟨wl_store (b:=q) (o:=33) (v:= .slice ca cn cc) hS4 rFz rFz Hp2.out upD (by rw [Hsize.out];show 33+1≤37;decide) kRz rFz ?_⟩
   intro w5 hS5
   clear hS4
   go_wp2_with ((with_reducible refine at_load ⟨?_⟩);refine wl_load1 (b:=q) (o:=36) (v:= .slice la2 ln2 lc2) hS5 rFz pkD (by rw [qdA_size _ Hd2k.out];decide) (by rw [qdA_l _ Hd2k.out,Hd2l.out]) kRz ?_)
   refine (numbers_c la2 ln2 lc2 60 hln2 hlc2 _).mono ?_
   rintro ee w6 ⟨v,rfl,rfl,rfl⟩
   obtain ⟨d3,hd3⟩:∃ d3:QD,d3=⟨⟨d2.c.kind,d2.c.key,d2.c.data,d2.c.n,d2.c.m,xl.take 60⟩,d2.dv,.slice la2 (min ln2 60) lc2⟩:=⟨_,rfl⟩
   have hp3:putsAt (qdA d2) 36 [.slice la2 (min ln2 60) lc2]=qdA d3:=by rw [puts_ql _ Hd2k.out (xl.take 60),hd3]
   have hd3k:d3.c.key.length=32:=by rw [hd3];exact Hd2k.out
   have Hones3:=uQ (show (qdA d3).toList.all (·.oneCell')=true by rw [hd3,Hd2.out];exact qdA_ones _ rfl rfl)
   have Hc3:=uQ (show d3.c=Rep.Qal.cut ⟨kind,key,data,xn,xm,xl⟩ by rw [hd3,Hd2.out,← Hd1.out];rfl)
   have Hb3:=uQ (show bsl d3.dv d3.c.data=bsl (.slice ca cn cc) (data.take 200) by rw [hd3,Hd2.out])
   have Hl3:=uQ (show d3.lv = .slice la2 (min ln2 60) lc2∧d3.c.l=xl.take 60 by rw [hd3];exact ⟨rfl,rfl⟩)
   have Hp3:=uQ hp3;have Hd3k:=uQ hd3k
   clear hp3 hd3 hd3k
   have hlen:(qdsL es).length≤2147483648:=by
    rw [qdsL_len Hfk.out]
    have:=congrArg List.length Hfs.out
    simp only [List.length_map,List.length_take]at this
    have:=Hn.out;have:=Hin.out;omega
   go_wp2_with (with_reducible apply at_store)
   refine ⟨wl_store (b:=q) (o:=36) (v:= .slice la2 (min ln2 60) lc2) hS5 rFz rFz Hp3.out upD (by rw [qdA_size _ Hd2k.out];exact Nat.le_refl 37) kRz rFz ?_⟩
   intro w7 hS7
   clear hS5
   go_wp2_with (first
    |((with_reducible refine at_load ⟨?_⟩);refine wl_loadA (b:=q) hS7 rFz pkD Tryz.underlying41 rfl (by rw [qdA_size _ Hd3k.out];exact infoQo) ?_)
    |((with_reducible refine at_build1 ⟨?_⟩);refine wl_build1 (e:=41) (sz:=37) (by':=104) kRz hS7 rFz (cs:=qdA d3) rfl (qdA_size _ Hd3k.out) nLz ?_;intro bN wN hN)
    |((with_reducible refine at_append ⟨?_⟩);refine wl_app 41 37 104 kRz hN rFz rFz pkD pkD ((qdA_size _ Hd3k.out).trans dCz) (Nat.le_refl 1) Hones3.out hlen (by rw [qdA_size _ Hd3k.out];decide) dCz rfl ?_;intro bA nA cA wA hA))
   go_roundg (ds.length - (i+1))
   case measure=>have:=Hl1.out;omega
   case rel=>
    refine ⟨i+1,es++[d3],rfl,Nat.succ_le_of_lt Hl1.out,Nat.succ_le_of_lt Hl2.out,by first|rfl|go_num,?_,?_,?_⟩
    ·rw [← hcut.out,List.map_append,List.map_cons,List.map_nil,Hc3.out]
    ·intro d hd
     rcases List.mem_append.1 hd with hd|hd
     ·exact Hls.out d hd
     ·rw [List.mem_singleton.1 hd,Hl3.out.1,Hl3.out.2]
      exact ⟨fun w hw=>rdsl_cutI (Hrl.out w hw),⟨_,_,_,rfl,Nat.le_trans (Nat.min_le_left _ _) hln2,hlc2⟩⟩
    ·rw [qdsL_snoc,dataQ_snoc,Hb3.out]
     have h10:Sat w0 wA (bsl (.slice ca cn cc) (data.take 200)::dataQ es::osl 41 37 (.slice (some ⟨bA,0,none⟩) nA cA) (qdsL es++(qdA d3).toList)::F):=hA.sb
     exact (Sat.star.2 h10).pick1
  ·have hfin:es.map (·.c)=Rep.fewQ (ds.map (·.c)) n:=by
    rw [Hfs.out]
    unfold Rep.fewQ
    congr 1
    have:=Hi.out;have:=Hin.out
    by_cases hh:i=n
    ·rw [hh]
    ·rw [List.take_of_length_le (by rw [List.length_map];omega),List.take_of_length_le (by rw [List.length_map];omega)]
   have Hfin:=uQ hfin
   by_cases hl1:i<ds.length
   ·have c1:(i:Int)<(ds.length:Int):=by omega
    have c2:¬ (i:Int)<(n:Int):=oQ
    clear hfin hlt hl1
    go_wp2
    go_ret
    exact ⟨_,rfl,es,Hfin.out,Hls.out,hS⟩
   ·have c1:¬ (i:Int)<(ds.length:Int):=by omega
    clear hfin hlt hl1
    go_wp2
    go_ret
    exact ⟨_,rfl,es,Hfin.out,Hls.out,hS⟩
end
section
variable {w0 w:World}{F:List HProp}{r m K r0 E n:Nat}{seg:Int}{o oc:Frm.Bs→Option Frm.Bs}{d:Bool}
set_option maxRecDepth 20000 in
theorem does0_c (x:QD) (hkey:x.c.key.length=32) (hkind:x.c.kind=0) (hd:Ro w0 F (rdsl 1 x.dv (bys x.c.data))) (hlen:x.c.data.length≤300) (hn:n≤199) (hE:E≤200) (hK:K≤1048576) (hH:Ro w0 F Half) (h:RSt w0 r m seg K r0 E n o oc d F w) :
  Calls Tryz.prog 11 #[ptr r,.agg (qdA x)] w (Rtn fun v w'=>(v=errno 0∧RSt w0 r m seg (K+4) r0 E (n+1) (Tab.put o x.c.key x.c.data) oc true F w')∨(v=errno 11∧RSt w0 r m seg (K+4) r0 E n o oc d F w')):=by
 obtain ⟨LL,hS,hpush,hdrop⟩:=h.sat
 have hF:=hdrop _ hS
 obtain ⟨da,dn,dc,hdv,hdn,_⟩:=hd w hF
 rw [bys_len,Nat.mul_one]at hdn
 subst hdn
 rw [hdv]at hd
 have Hd:=uQ hd;have Hlen:=uQ hlen
 clear hd hlen
 have Hkey:=uQ hkey;have Hp:=uQ hpush;have HH:=uQ hH;have Hn:=uQ hn;have HE:=uQ hE;have HK:=uQ hK
 clear h hpush hdrop hkey hH hn hE hK hF
 go_enter Tryz.func11,Tryz.ntmps11
 go_wp2_with (with_reducible apply at_box)
 refine ⟨wl_box hS rFz rFz ?_⟩
 intro b3 w3 h3
 have h4:=Hp.out _ _ h3
 have e0:w3.cell? ⟨b3,0,none⟩=some (.int .i64 x.c.kind):=h3.cellP pick0 0 (by unfold qdA;rw [List.getElem?_toArray];exact qdL_kind x)
 have fk:w3.rangeAt b3 1 (bys x.c.key):=fun j z hj=>h3.cellP pick0 (1+j) (by unfold qdA;rw [List.getElem?_toArray];exact qdL_key x hj)
 have e33:w3.cell? ⟨b3,33,none⟩=some x.dv:=h3.cellP pick0 33 (by unfold qdA;rw [List.getElem?_toArray];exact qdL_tail x Hkey.out 0)
 clear hS h3
 rw [hdv]at e33
 rw [hkind]at e0
 go_wp2_with ((with_reducible refine at_load ⟨?_⟩);refine wl_loadW (b:=b3) (o:=1) (bys x.c.key) rFz fk Tryz.underlying31 rfl (by rw [bys_len,Hkey.out];kernel_rfl) ?_)
 refine (sput_c (by have:=Hn.out;omega) HE.out HK.out Hkey.out x.c.data da dc (Ro.os Hd.out) Hlen.out (Ro.os HH.out) h4).mono ?_
 rintro ee w5 ⟨v,rfl,⟨rfl,h5⟩|⟨rfl,h5⟩⟩
 ·go_wp2_with fail
  go_ret
  exact ⟨_,rfl,.inl ⟨rfl,h5.drop⟩⟩
 ·go_wp2_with fail
  go_ret
  exact ⟨_,rfl,.inr ⟨rfl,h5.drop⟩⟩
set_option maxRecDepth 20000 in
theorem does1_c (x:QD) (hkey:x.c.key.length=32) (hkind:x.c.kind=1) (hn:n≤199) (hE:E≤200) (hK:K≤1048576) (hH:Ro w0 F Half) (h:RSt w0 r m seg K r0 E n o oc d F w) :
  Calls Tryz.prog 11 #[ptr r,.agg (qdA x)] w (Rtn fun v w'=>(v=errno 0∧RSt w0 r m seg (K+4) r0 E (n+1) (Tab.del o x.c.key) oc true F w')∨((v=errno 11∨v=errno 9)∧RSt w0 r m seg (K+4) r0 E n o oc d F w')):=by
 obtain ⟨LL,hS,hpush,hdrop⟩:=h.sat
 have hF:=hdrop _ hS
 have Hkey:=uQ hkey;have Hp:=uQ hpush;have HH:=uQ hH;have Hn:=uQ hn;have HE:=uQ hE;have HK:=uQ hK
 clear h hpush hdrop hkey hH hn hE hK hF
 go_enter Tryz.func11,Tryz.ntmps11
 go_wp2_with (with_reducible apply at_box)
 refine ⟨wl_box hS rFz rFz ?_⟩
 intro b3 w3 h3
 have h4:=Hp.out _ _ h3
 have e0:w3.cell? ⟨b3,0,none⟩=some (.int .i64 x.c.kind):=h3.cellP pick0 0 (by unfold qdA;rw [List.getElem?_toArray];exact qdL_kind x)
 have fk:w3.rangeAt b3 1 (bys x.c.key):=fun j z hj=>h3.cellP pick0 (1+j) (by unfold qdA;rw [List.getElem?_toArray];exact qdL_key x hj)
 have e33:w3.cell? ⟨b3,33,none⟩=some x.dv:=h3.cellP pick0 33 (by unfold qdA;rw [List.getElem?_toArray];exact qdL_tail x Hkey.out 0)
 clear hS h3
 rw [hkind]at e0
 go_wp2_with ((with_reducible refine at_load ⟨?_⟩);refine wl_loadW (b:=b3) (o:=1) (bys x.c.key) rFz fk Tryz.underlying31 rfl (by rw [bys_len,Hkey.out];kernel_rfl) ?_)
 refine (sdel_c (by have:=Hn.out;omega) HE.out HK.out Hkey.out (Ro.os HH.out) h4).mono ?_
 rintro ee w5 ⟨v,rfl,⟨rfl,h5⟩|⟨rfl|rfl,h5⟩⟩
 ·go_wp2_with fail
  go_ret
  exact ⟨_,rfl,.inl ⟨rfl,h5.drop⟩⟩
 ·go_wp2_with fail
  go_ret
  exact ⟨_,rfl,.inr ⟨.inl rfl,h5.drop⟩⟩
 ·go_wp2_with fail
  go_ret
  exact ⟨_,rfl,.inr ⟨.inr rfl,h5.drop⟩⟩
set_option maxRecDepth 20000 in
theorem does2_c (x:QD) (hkey:x.c.key.length=32) (hkind:x.c.kind=2) (hn:n≤199) (hE:E≤200) (hK:K≤1048576) (hH:Ro w0 F Half) (h:RSt w0 r m seg K r0 E n o oc d F w) :
  Calls Tryz.prog 11 #[ptr r,.agg (qdA x)] w (Rtn fun v w'=>(v=errno 0∧RSt w0 r m seg (K+605) r0 (E+2) (n+1) o o false F w')∨(v=errno 11∧RSt w0 r m seg (K+605) r0 E n o oc d F w')):=by
 obtain ⟨LL,hS,hpush,hdrop⟩:=h.sat
 have hF:=hdrop _ hS
 have Hkey:=uQ hkey;have Hp:=uQ hpush;have HH:=uQ hH;have Hn:=uQ hn;have HE:=uQ hE;have HK:=uQ hK
 clear h hpush hdrop hkey hH hn hE hK hF
 go_enter Tryz.func11,Tryz.ntmps11
 go_wp2_with (with_reducible apply at_box)
 refine ⟨wl_box hS rFz rFz ?_⟩
 intro b3 w3 h3
 have h4:=Hp.out _ _ h3
 have e0:w3.cell? ⟨b3,0,none⟩=some (.int .i64 x.c.kind):=h3.cellP pick0 0 (by unfold qdA;rw [List.getElem?_toArray];exact qdL_kind x)
 have fk:w3.rangeAt b3 1 (bys x.c.key):=fun j z hj=>h3.cellP pick0 (1+j) (by unfold qdA;rw [List.getElem?_toArray];exact qdL_key x hj)
 have e33:w3.cell? ⟨b3,33,none⟩=some x.dv:=h3.cellP pick0 33 (by unfold qdA;rw [List.getElem?_toArray];exact qdL_tail x Hkey.out 0)
 clear hS h3
 rw [hkind]at e0
 go_wp2_with fail
 refine (scom_c (by have:=Hn.out;omega) HE.out HK.out (Ro.os HH.out) h4).mono ?_
 rintro ee w5 ⟨v,rfl,⟨rfl,h5⟩|⟨rfl,h5⟩⟩
 ·go_wp2_with fail
  go_ret
  exact ⟨_,rfl,.inl ⟨rfl,h5.drop⟩⟩
 ·go_wp2_with fail
  go_ret
  exact ⟨_,rfl,.inr ⟨rfl,h5.drop⟩⟩
theorem does012_c (x:QD) (hkey:x.c.key.length=32) (hkind:0≤x.c.kind∧x.c.kind<3) (hd:Ro w0 F (rdsl 1 x.dv (bys x.c.data))) (hlen:x.c.data.length≤300) (hn:n≤199) (hE:E≤200) (hK:K≤1048576) (hH:Ro w0 F Half) (h:RSt w0 r m seg K r0 E n o oc d F w) :
  Calls Tryz.prog 11 #[ptr r,.agg (qdA x)] w (Rtn fun v w'=>∃ (e:Int) (o' oc':Frm.Bs→Option Frm.Bs) (d':Bool),v=errno e∧RSt w0 r m seg (K+605) r0 (E+2) (n+1) o' oc' d' F w'):=by
 have hc:x.c.kind=0∨x.c.kind=1∨x.c.kind=2:=oQ
 rcases hc with hc|hc|hc
 ·refine (does0_c x hkey hc hd hlen hn hE hK hH h).mono ?_
  rintro e w' ⟨v,rfl,⟨rfl,h2⟩|⟨rfl,h2⟩⟩
  ·exact ⟨_,rfl,0,_,_,_,rfl,h2.mono oQ oQ (Nat.le_refl _)⟩
  ·exact ⟨_,rfl,11,_,_,_,rfl,h2.mono oQ oQ oQ⟩
 ·refine (does1_c x hkey hc hn hE hK hH h).mono ?_
  rintro e w' ⟨v,rfl,⟨rfl,h2⟩|⟨rfl|rfl,h2⟩⟩
  ·exact ⟨_,rfl,0,_,_,_,rfl,h2.mono oQ oQ (Nat.le_refl _)⟩
  ·exact ⟨_,rfl,11,_,_,_,rfl,h2.mono oQ oQ oQ⟩
  ·exact ⟨_,rfl,9,_,_,_,rfl,h2.mono oQ oQ oQ⟩
 ·refine (does2_c x hkey hc hn hE hK hH h).mono ?_
  rintro e w' ⟨v,rfl,⟨rfl,h2⟩|⟨rfl,h2⟩⟩
  ·exact ⟨_,rfl,0,_,_,_,rfl,h2⟩
  ·exact ⟨_,rfl,11,_,_,_,rfl,h2.mono oQ oQ oQ⟩
end
abbrev PV:=Frm.Bs×Frm.Bs×Value
def pvL (q:PV):List Value:=bys q.1++[q.2.2]
def pvK (q:PV):Frm.Bs×Frm.Bs:=(q.1,q.2.1)
def dataV (ps:List PV):HProp:=stars (ps.map fun q=>bsl q.2.2 q.2.1)
theorem pvL_len (q:PV) (hk:q.1.length=32):(pvL q).length=33:=by unfold pvL;rw [List.length_append,bys_len,hk];rfl
theorem pvL_ones (q:PV){a:Option Addr}{n c:Nat} (h:q.2.2 = .slice a n c):(pvL q).all (·.oneCell')=true:=by
 unfold pvL
 have hb:(bys q.1).all (·.oneCell')=true:=bys_ones _
 rw [List.all_append,hb,h];rfl
theorem dataV_snoc (ps:List PV) (q:PV):dataV (ps++[q])=star (bsl q.2.2 q.2.1) (dataV ps):=by
 unfold dataV
 rw [List.map_append,stars_append,star_comm]
 show star (stars [bsl q.2.2 q.2.1]) _=_
 rw [stars_one]
theorem plPair:placesB Tryz.prog 70=some [(0,32),(32,1)]:=by kernel_rfl
theorem zPair:zeroB Tryz.prog 70=some (.agg (pvL (Frm.zero32,[],.slice none 0 0)).toArray):=by kernel_rfl
theorem run_pair (k:Frm.Bs) (hk:k.length=32) (d:Frm.Bs) (a:Option Addr) (n c:Nat) (w:World) :
  (Instr.build 70 #[(0,.agg (bys k).toArray),(1,.slice a n c)]).run Tryz.prog w = .ok (.agg (pvL (k,d,.slice a n c)).toArray) w:=by
 have hbk:(bys k).toArray.size=32:=by rw [List.size_toArray,bys_len,hk]
 refine (run_build (P:=Tryz.prog) [(0,.agg (bys k).toArray),(1,.slice a n c)] plPair zPair (by
  intro p' hp
  simp only [List.mem_cons,List.not_mem_nil,or_false]at hp
  have hzz:(Value.agg (pvL (Frm.zero32,[],.slice none 0 0)).toArray).cells.size=33:=by
   show (pvL (Frm.zero32,[],.slice none 0 0)).toArray.size=33
   rw [List.size_toArray,pvL_len _ rfl]
  rw [hzz]
  rcases hp with rfl|rfl
  ·refine ⟨0,?_,?_⟩
   ·show some (0,32)=some (0,(bys k).toArray.size);rw [hbk]
   ·show 0+(bys k).toArray.size≤33;omega
  ·exact ⟨32,rfl,by show 32+1≤33;omega⟩) w).trans ?_
 congr 2
 show putsAt (putsAt (pvL (Frm.zero32,[],.slice none 0 0)).toArray 0 (bys k)) 32 [.slice a n c]=_
 have h1:putsAt (pvL (Frm.zero32,[],.slice none 0 0)).toArray 0 (bys k)=(bys k++Value.slice none 0 0::[]).toArray:=by
  apply putsAt_eq
  rw [putsAt_list _ _ _ (by rw [List.size_toArray,pvL_len _ rfl,bys_len,hk];decide),List.take_zero,List.nil_append,Nat.zero_add,bys_len,hk,List.toList_toArray]
  rfl
 rw [h1]
 exact putsAt_mid _ _ _ _ (by rw [bys_len,hk])
section
variable {w0 w:World}{F:List HProp}{r m K r0 E n:Nat}{seg:Int}{o oc:Frm.Bs→Option Frm.Bs}{d:Bool}
set_option maxRecDepth 20000 in
theorem map17_c (hn:n≤200) (hH:Ro w0 F Half) (h:RSt w0 r m seg K r0 E n o oc d F w) :
  Calls Tryz.prog 13 #[ptr r] w (Rtn fun v w'=>∃ (mv:Value) (qs:List PV),v = .tuple #[mv,.bool true]∧(Tab.Lists o (qs.map pvK)∧(∀ q∈qs,q.1.length=32∧∃ a n c,q.2.2 = .slice a n c)∧qs.length≤200∧(∀ q∈qs,q.2.1.length≤16384)) ∧
   RSt w0 r m seg K r0 E n o oc d (osl 70 33 mv (qs.flatMap pvL)::dataV qs::F) w'):=by
 obtain ⟨ps,p,pn,pi,B,B2,B0,uv,tv,N,us,L,M,C,C0,hf,hS⟩:=h
 have hS0:Sat w0 w (rpPt r m seg p ps pn d::TabML pn (Rep.nowOf (Rep.rowsC 0 C)) B::LogRep p m L::MedRep m M::stPt ps N pi uv tv::TabML pi (Rep.nowOf (Rep.rowsC 0 C0)) B2::osl 113 3 uv (us.flatMap uenc)::F):=hS
 have Hf:=uQ hf;have HH:=uQ hH;have Hn:=uQ hn
 have hB:B≤200:=Nat.le_trans hf.b1 hn
 have HB:=uQ hB
 have hks:=rpkeys_c (Nat.le_trans hB dCz) hS0
 clear hS hf hH hn hB hS0
 go_enter Tryz.func13,Tryz.ntmps13
 go_wp2_with fail
 refine hks.mono ?_
 rintro ee w1 ⟨kv,rfl,kl,hkl,h1⟩
 clear hks
 have Hl:=uQ hkl.1
 have Hk32:=uQ (show ∀ q∈kl,(bys q.1).length=32 from fun q hq=>by rw [bys_len];exact hkl.2.1 q hq)
 have Hk:=uQ hkl.2.1
 have Hkn:=uQ (show kl.length≤200 from Nat.le_trans hkl.2.2 HB.out)
 have Hkl:=uQ (Rep.pairs_lists (es:=C.flatten) (Rep.rowsC_e 0 C) hkl.1)
 obtain ⟨la,lc,rfl⟩:=osl_rows Hk32.out (Sat.rd h1) dCz
 have h2:Sat w0 w1 (osl 70 33 (.slice none 0 0) []::dataV []::osl 31 32 (.slice la kl.length lc) (kl.flatMap fun q=>bys q.1)::rpPt r m seg p ps pn d::TabML pn (Rep.nowOf (Rep.rowsC 0 C)) B::LogRep p m L::MedRep m M::stPt ps N pi uv tv::TabML pi (Rep.nowOf (Rep.rowsC 0 C0)) B2::osl 113 3 uv (us.flatMap uenc)::F):=Sat.osl_nil.2 (Sat.emp.2 h1)
 clear hkl h1
 go_wp2_with fail
 go_loopg [4,6] kl.length (fun g ov iq wr=>∃ (i:Nat) (qs:List PV),g=kl.length - i∧i≤kl.length∧iq = .int .i64 i∧(qs.map pvK=(Rep.pairsOf C.flatten kl).take i∧(∀ q∈qs,q.1.length=32∧∃ a n c,q.2.2 = .slice a n c)∧(∀ q∈qs,q.2.1.length≤16384)) ∧
  Sat w0 wr (osl 70 33 ov (qs.flatMap pvL)::dataV qs::osl 31 32 (.slice la kl.length lc) (kl.flatMap fun q=>bys q.1)::rpPt r m seg p ps pn d::TabML pn (Rep.nowOf (Rep.rowsC 0 C)) B::LogRep p m L::MedRep m M::stPt ps N pi uv tv::TabML pi (Rep.nowOf (Rep.rowsC 0 C0)) B2::osl 113 3 uv (us.flatMap uenc)::F))
 case atStart=>exact ⟨0,[],rfl,Nat.zero_le _,rfl,⟨rfl,(fun q hq=>by cases hq),(fun q hq=>by cases hq)⟩,h2⟩
 case round=>
  obtain ⟨i,qs,rfl,hi,rfl,⟨hqs,hq32,hq300⟩,hS⟩:=hrel
  clear h2
  have Hqs:=uQ hqs;have Hq:=uQ hq32;have Hq3:=uQ hq300
  have hql:qs.length=i:=by
   have:=congrArg List.length hqs
   unfold Rep.pairsOf at this
   rw [List.length_map,List.length_take,List.length_map]at this
   omega
  have Hql:=uQ hql
  clear hqs hq32 hq300 hql
  by_cases hlt:i<kl.length
  rotate_left
  ·obtain rfl:i=kl.length:=by omega
   have c1:¬ (kl.length:Int)<(kl.length:Int):=oQ
   have hle:=rlen_c (hS.sb:Sat w0 wr (rpPt r m seg p ps pn d::TabML pn (Rep.nowOf (Rep.rowsC 0 C)) B::F))
   clear hlt hi
   go_wp2_with fail
   refine hle.mono ?_
   rintro ee w9 ⟨v,rfl,t,⟨t1,t2⟩,rfl,rfl⟩
   clear hle
   have htn:(t.n:Int)=(kl.length:Int):=by rw [Tab.len_lists t1 t2 Hl.out]
   rw [htn]
   have heq:((kl.length:Int)==(kl.length:Int))=true:=beq_self_eq_true _
   go_wp2_with fail
   go_ret2
   refine ⟨_,rfl,_,qs,rfl,⟨?_,Hq.out,by rw [Hql.out];exact Hkn.out,Hq3.out⟩,ps,p,pn,pi,B,B2,B0,uv,tv,N,us,L,M,C,C0,Hf.out,hS.sb⟩
   rw [Hqs.out,List.take_of_length_le (by unfold Rep.pairsOf;rw [List.length_map];exact Nat.le_refl _),Hf.out.now]
   exact Hkl.out
  have c1:(i:Int)<(kl.length:Int):=oQ
  have hwi:IntKind.i64.wrap ((i:Int)+1)=(i:Int)+1:=IntWalk.i64_in _ (by have:=Hkn.out;omega)
  obtain ⟨⟨k,pl⟩,hx⟩:∃ q,kl[i]?=some q:=⟨_,List.getElem?_eq_getElem hlt⟩
  have hxm:=List.mem_of_getElem? hx
  have Hxk:=uQ (Hk.out _ hxm)
  have hmk:=(Hl.out.mem k pl).1 hxm
  obtain ⟨data,g1,g2,g3,g4,g5,g6⟩:=Hf.out.rp.got hmk
  obtain ⟨bk,off,c',hsv,hcell⟩:=osl_row (f:=fun q:Frm.Bs×Seg.Plc=>bys q.1) (k:=32) Hk32.out (Sat.rd (hS.pick pick2)) hx dCz
  cases hsv
  have Hlt:=uQ hlt
  have Htk:=uQ (show (Rep.pairsOf C.flatten kl).take (i+1)=(Rep.pairsOf C.flatten kl).take i++[(k,data)] by
   unfold Rep.pairsOf
   rw [← List.map_take,← List.map_take,List.take_add_one,hx,Option.toList_some,List.map_append,List.map_cons,List.map_nil]
   simp only
   rw [g2];rfl)
  have hgt:=rpgetY_c (by have:=HB.out;omega) Hxk.out pl hmk (Ro.os HH.out) Hf.out.rp.hg.keeps.log Hf.out.rp.hg.keeps.calm.ok g4 g5 data oQ g1
   (hS.sb:Sat w0 wr (rpPt r m seg p ps pn d::TabML pn (Rep.nowOf (Rep.rowsC 0 C)) B::LogRep p m L::MedRep m M::osl 70 33 u4 (qs.flatMap pvL)::dataV qs::osl 31 32 (.slice (some ⟨bk,off,none⟩) kl.length lc) (kl.flatMap fun q=>bys q.1)::stPt ps N pi uv tv::TabML pi (Rep.nowOf (Rep.rowsC 0 C0)) B2::osl 113 3 uv (us.flatMap uenc)::F))
  have Hd3:=uQ (show data.length≤16384 by omega)
  clear hxm hlt hi hmk g1 g2 g3 g4 g5 g6 hS
  go_wp2_with ((with_reducible refine at_load ⟨?_⟩);refine wl_loadW (b:=bk) (o:=off+i * 32) (bys k) rFz hcell Tryz.underlying31 rfl (by rw [bys_len,Hxk.out];kernel_rfl) ?_)
  refine hgt.mono ?_
  rintro ee w5 ⟨v,rfl,bv,va,vn,vc,rfl,rfl,h5⟩
  clear hgt hcell
  replace h5:Sat w0 w5 (osl 70 33 u4 (qs.flatMap pvL)::bsl (.slice va vn vc) data::dataV qs::osl 31 32 (.slice (some ⟨bk,off,none⟩) kl.length lc) (kl.flatMap fun q=>bys q.1)::rpPt r m seg p ps pn d::TabML pn (Rep.nowOf (Rep.rowsC 0 C)) B::LogRep p m L::MedRep m M::stPt ps N pi uv tv::TabML pi (Rep.nowOf (Rep.rowsC 0 C0)) B2::osl 113 3 uv (us.flatMap uenc)::F):=h5.sb
  obtain ⟨bk2,off2,c2,e2,hcell⟩:=osl_row (f:=fun q:Frm.Bs×Seg.Plc=>bys q.1) (k:=32) Hk32.out (Sat.rd (h5.pick pick3)) hx dCz
  cases e2
  have hle:(qs.flatMap pvL).length≤2147483648:=by
   rw [rows_len (k:=33) fun q hq=>pvL_len q (Hq.out q hq).1,Hql.out];have:=Hkn.out;have:=Hlt.out;omega
  go_wp2_with (first
   |((with_reducible refine at_load ⟨?_⟩);refine wl_loadW (b:=bk) (o:=off+i * 32) (bys k) rFz hcell Tryz.underlying31 rfl (by rw [bys_len,Hxk.out];kernel_rfl) ?_)
   |((with_reducible apply ug_at_build);refine ⟨?_⟩;refine wl_bld (ps:=#[(0,.agg (bys k).toArray),(1,.slice va vn vc)]) (by simp only [List.map_toArray,List.map_cons,List.map_nil];rfl) (fun w=>run_pair k Hxk.out data va vn vc w) ?_)
   |((with_reducible refine at_build1 ⟨?_⟩);refine wl_build1 (e:=70) (sz:=33) (by':=56) kRz h5 rFz (cs:=(pvL (k,data,.slice va vn vc)).toArray) rfl (by rw [List.size_toArray,pvL_len _ Hxk.out]) nLz ?_;intro bN wN hN)
   |((with_reducible refine at_append ⟨?_⟩);refine wl_app 70 33 56 kRz hN rFz rFz (pick_there pick0) pick0 (by rw [List.size_toArray,pvL_len _ Hxk.out]) (Nat.le_refl 1) (by rw [List.toList_toArray];exact pvL_ones _ rfl) hle (by rw [List.size_toArray,pvL_len _ Hxk.out];decide) dCz rfl ?_;intro bA nA cA wA hA))
  go_roundg (kl.length - (i+1))
  case measure=>have:=Hlt.out;omega
  case rel=>
   refine ⟨i+1,qs++[(k,data,.slice va vn vc)],rfl,Hlt.out,by first|rfl|go_num,⟨?_,fun q hq=>?_,fun q hq=>?_⟩,?_⟩
   ·rw [List.map_append,Hqs.out,Htk.out];rfl
   ·rcases List.mem_append.1 hq with hq|hq
    ·exact Hq.out q hq
    ·rw [List.mem_singleton.1 hq];exact ⟨Hxk.out,_,_,_,rfl⟩
   ·rcases List.mem_append.1 hq with hq|hq
    ·exact Hq3.out q hq
    ·rw [List.mem_singleton.1 hq];exact Hd3.out
   ·rw [List.flatMap_append,List.flatMap_singleton,dataV_snoc]
    have h10:Sat w0 wA (bsl (.slice va vn vc) data::dataV qs::osl 70 33 (.slice (some ⟨bA,0,none⟩) nA cA) (qs.flatMap pvL++(pvL (k,data,.slice va vn vc)).toArray.toList)::osl 31 32 (.slice (some ⟨bk,off,none⟩) kl.length lc) (kl.flatMap fun q=>bys q.1)::rpPt r m seg p ps pn d::TabML pn (Rep.nowOf (Rep.rowsC 0 C)) B::LogRep p m L::MedRep m M::stPt ps N pi uv tv::TabML pi (Rep.nowOf (Rep.rowsC 0 C0)) B2::osl 113 3 uv (us.flatMap uenc)::F):=hA.sb
    exact (Sat.star.2 h10).pick1
end
theorem pvL_key (q:PV){j:Nat}{v:Value} (h:(bys q.1)[j]?=some v):(pvL q)[j]?=some v:=by
 unfold pvL
 rw [List.getElem?_append_left (List.getElem?_eq_some_iff.1 h).1];exact h
theorem pvL_data (q:PV) (hk:q.1.length=32):(pvL q)[32]?=some q.2.2:=by
 unfold pvL
 rw [List.getElem?_append_right (by rw [bys_len];omega),bys_len,hk];rfl
theorem neqG_key (x y:Operand) (k l:Frm.Bs) (hk:k.length=32) (hl:l.length=32) (w:World):((do eqGuard .neq 31 x y (.agg (bys k).toArray) (.agg (bys l).toArray);binOp .neq 31 (.agg (bys k).toArray) (.agg (bys l).toArray)):Sem Value).run Tryz.prog w = .ok (.bool (!decide (k=l))) w:=by
 have h:=neq_key k l hk hl w
 simp [eqGuard,Sem.run_bind,h]
section
variable {w0 w:World}{F:List HProp}{av bv mv:Value}
set_option maxRecDepth 20000 in
theorem sameMap_c (ps qs:List PV) (he:ps.map pvK=qs.map pvK) (hp:∀ q∈ps,q.1.length=32) (ha:Ro w0 F (rdsl 33 av (ps.flatMap pvL))) (hb:Ro w0 F (rdsl 33 bv (qs.flatMap pvL))) (hda:∀ q∈ps,Ro w0 F (rdsl 1 q.2.2 (bys q.2.1))) (hdb:∀ q∈qs,Ro w0 F (rdsl 1 q.2.2 (bys q.2.1)))
  (hlen:ps.length≤1073741824) (hdl:∀ q∈ps,q.2.1.length≤1073741824) (h:Sat w0 w F) :
  Calls Tryz.prog 14 #[av,bv] w (Rtn fun v w'=>v = .bool true∧Sat w0 w' F):=by
 have hle:qs.length=ps.length:=by have:=congrArg List.length he;rw [List.length_map,List.length_map]at this;exact this.symm
 have hpq:∀ (i:Nat) (p q:PV),ps[i]?=some p→qs[i]?=some q→q.1=p.1∧q.2.1=p.2.1:=fun i p q h1 h2=>by
  have:=congrArg (fun l=>l[i]?) he
  simp only [List.getElem?_map,h1,h2,Option.map_some]at this
  have e:=Option.some.inj this
  exact ⟨(congrArg Prod.fst e).symm,(congrArg Prod.snd e).symm⟩
 have hq:∀ q∈qs,q.1.length=32:=fun q hm=>by
  obtain ⟨i,hi,rfl⟩:=List.getElem_of_mem hm
  have h2:=hpq i _ _ (List.getElem?_eq_getElem oQ) (List.getElem?_eq_getElem hi)
  rw [h2.1]
  exact hp _ (List.getElem_mem _)
 have Hka:=uQ (show ∀ q∈ps,(pvL q).length=33 from fun q hm=>pvL_len q (hp q hm))
 have Hkb:=uQ (show ∀ q∈qs,(pvL q).length=33 from fun q hm=>pvL_len q (hq q hm))
 obtain ⟨aa,ac,rfl⟩:=osl_rows Hka.out (ha w h) dCz
 obtain ⟨ba,bc,rfl⟩:=osl_rows Hkb.out (hb w h) dCz
 rw [hle]at hb ⊢
 have Ha:=uQ ha;have Hb:=uQ hb;have Hlen:=uQ hlen;have Hda:=uQ hda;have Hdb:=uQ hdb;have Hdl:=uQ hdl;have Hp:=uQ hp;have Hpq:=uQ hpq;have Hle:=uQ hle
 clear ha hb hlen hda hdb hdl hp hpq hq he hle
 go_enter Tryz.func14,Tryz.ntmps14
 have c0:((ps.length:Int) != (ps.length:Int))=false:=bne_self_eq_false ..
 go_wp2_with fail
 go_loopg [5] ps.length (fun g iq wr=>∃ i:Nat,g=ps.length - i∧i≤ps.length∧iq = .int .i64 i∧Sat w0 wr F)
 case atStart=>exact ⟨0,rfl,Nat.zero_le _,rfl,h⟩
 case round=>
  obtain ⟨i,rfl,hiN,rfl,hS⟩:=hrel
  clear h
  by_cases hi:i<ps.length
  ·have hic:(i:Int)<(ps.length:Int):=by omega
   have hwi:IntKind.i64.wrap ((i:Int)+1)=(i:Int)+1:=IntWalk.i64_in _ (by have:=Hlen.out;omega)
   obtain ⟨p,hpi⟩:∃ p,ps[i]?=some p:=⟨_,List.getElem?_eq_getElem hi⟩
   obtain ⟨q,hqi⟩:∃ q,qs[i]?=some q:=⟨_,List.getElem?_eq_getElem (by rw [Hle.out];exact hi)⟩
   obtain ⟨e1,e2⟩:=Hpq.out i p q hpi hqi
   have hS1:=hS.drew
   obtain ⟨bk,off,c',f1,d1⟩:=osl_row Hka.out (Ha.out _ hS1) hpi dCz
   obtain ⟨bk2,off2,c2',f2,d2⟩:=osl_row Hkb.out (Hb.out _ hS1) hqi dCz
   rw [Hle.out]at f2
   cases f1;cases f2
   have Hi:=uQ hi
   have Hpk:=uQ (Hp.out p (List.mem_of_getElem? hpi))
   have hrp:=Hda.out p (List.mem_of_getElem? hpi)
   have hrq:=Hdb.out q (List.mem_of_getElem? hqi)
   rw [e2]at hrq
   have hdlp:=Hdl.out p (List.mem_of_getElem? hpi)
   obtain ⟨pk,pd,pv⟩:=p
   obtain ⟨qk,qd,qv⟩:=q
   dsimp only at e1 e2 hrp hrq hdlp
   obtain rfl:pk=qk:=e1.symm
   obtain rfl:pd=qd:=e2.symm
   have HGA:=uQ (show (∀ j v,(bys pk)[j]?=some v→World.cell? _ ⟨bk,off+i * 33+j,none⟩=some v)∧(∀ j v,(bys pk)[j]?=some v→World.cell? _ ⟨bk2,off2+i * 33+j,none⟩=some v)∧World.cell? _ ⟨bk,off+i * 33+32,none⟩=some pv∧World.cell? _ ⟨bk2,off2+i * 33+32,none⟩=some qv from
    ⟨fun j v hj=>d1 j v (pvL_key (pk,pd,pv) hj),fun j v hj=>d2 j v (pvL_key (pk,pd,qv) hj),d1 32 _ (pvL_data (pk,pd,pv) Hpk.out),d2 32 _ (pvL_data (pk,pd,qv) Hpk.out)⟩)
   have hsm:=same_c pd hrp hrq hS1 oQ
   have hnk:∀ x y w,((do eqGuard .neq 31 x y (.agg (bys pk).toArray) (.agg (bys pk).toArray);binOp .neq 31 (.agg (bys pk).toArray) (.agg (bys pk).toArray)):Sem Value).run Tryz.prog w = .ok (.bool false) w:=fun x y w=>by rw [neqG_key x y pk pk Hpk.out Hpk.out w];simp
   have Hks:=uQ (show (bys pk).length=32 by rw [bys_len,Hpk.out])
   clear hpi hqi hi hiN d1 d2 hS
   go_wp2_with fail
   refine wpL_begin [22,23,24] (fun w'=>w'.rangeAt bk (off+i * 33) (bys pk)∧w'.rangeAt bk2 (off2+i * 33) (bys pk)∧w'.cell? ⟨bk,off+i * 33+32,none⟩=some pv∧w'.cell? ⟨bk2,off2+i * 33+32,none⟩=some qv) kRz ?_
   have hG:World.rangeAt _ bk (off+i * 33) (bys pk)∧World.rangeAt _ bk2 (off2+i * 33) (bys pk)∧World.cell? _ ⟨bk,off+i * 33+32,none⟩=some pv∧World.cell? _ ⟨bk2,off2+i * 33+32,none⟩=some qv:=HGA.out
   refine rP 0 ?_ (y:=mvQ)
   refine rP 1 ?_ (y:=mvQ)
   refine rP 2 ?_ (y:=ixQ)
   refine rP 3 ?_ (y:=flQ)
   refine rg_take 4 evD kRz i3z (tk_loadN (b:=bk) (o:=off+i * 33) (bys pk) rFz Tryz.underlying31 rfl (by rw [Hks.out];kernel_rfl) (fun w hw=>hw.1)) aQ gQ ?_
   refine rP 5 ?_ (y:=mvQ)
   refine rP 6 ?_ (y:=mvQ)
   refine rP 7 ?_ (y:=ixQ)
   refine rP 8 ?_ (y:=flQ)
   refine rg_take 9 evD kRz i3z (tk_loadN (b:=bk2) (o:=off2+i * 33) (bys pk) rFz Tryz.underlying31 rfl (by rw [Hks.out];kernel_rfl) (fun w hw=>hw.2.1)) aQ gQ ?_
   refine rP 10 ?_ (y:=(yl_bin evD evD (hnk _ _)))
   refine rP 11 ?_ (y:=mvQ)
   refine rP 12 ?_ (y:=(yg_move rFz evD))
   refine rP 13 ?_ (y:=(yg_move rFz evD))
   refine rP 14 ?_ (y:=(yg_index rFz evD evD rnD))
   refine rP 15 ?_ (y:=(yg_field rFz evD rnD))
   refine rg_take 16 evD kRz i3z (tg_load rFz evD kRz (fun wq hq=>hq.2.2.1)) aQ gQ ?_
   refine rP 17 ?_ (y:=(yg_move rFz evD))
   refine rP 18 ?_ (y:=(yg_move rFz evD))
   refine rP 19 ?_ (y:=(yg_index rFz evD evD rnD))
   refine rP 20 ?_ (y:=(yg_field rFz evD rnD))
   refine rg_take 21 evD kRz i3z (tg_load rFz evD kRz (fun wq hq=>hq.2.2.2)) aQ gQ ?_
   clear hG
   refine rg_eff 22 evD kRz (fun K hK=>?_)
   refine eg_call [pv,qv] rFz kRz rFz ?_
   refine hsm.mono ?_
   rintro ee w5 ⟨v,rfl,rfl,h5⟩
   refine hK _ _ (.inl rfl) ?_
   clear hK hsm hS1
   refine rP 23 ?_ (y:=(yg_un rFz evD rnD))
   refine rP 24 ?_ (y:=(yg_pick rFz evD evD))
   refine wpL_done kRz ?_
   try simp only [ayQ]
   try go_frame
   go_wp2_with fail
   go_roundg (ps.length - (i+1))
   case measure=>have:=Hi.out;omega
   case rel=>exact ⟨i+1,rfl,Nat.succ_le_of_lt Hi.out,by first|rfl|go_num,h5⟩
  ·obtain rfl:i=ps.length:=by omega
   have hic:¬ (ps.length:Int)<(ps.length:Int):=oQ
   clear hi hiN
   go_wp2_with fail
   go_ret
   exact ⟨.bool true,rfl,rfl,hS⟩
set_option maxRecDepth 20000 in
theorem set17_c (ps:List PV) (hp:∀ q∈ps,q.1.length=32∧∃ a n c,q.2.2 = .slice a n c) (hr:Ro w0 F (rdsl 33 mv (ps.flatMap pvL))) (hlen:ps.length≤1048576) (k:Frm.Bs) (hk:k.length=32) (b:Frm.Bs) (ba:Option Addr) (bn bc:Nat) (gone:Bool) (h:Sat w0 w F) :
  Calls Tryz.prog 12 #[mv,.agg (bys k).toArray,.slice ba bn bc,.bool gone] w (Rtn fun v w'=>∃ qs:List PV,(qs.map pvK=Tab.setAux k b (ps.map pvK) gone∧(∀ q∈qs,q∈ps∨q=(k,b,Value.slice ba bn bc)))∧Sat w0 w' (osl 70 33 v (qs.flatMap pvL)::F)):=by
 have Hka:=uQ (show ∀ q∈ps,(pvL q).length=33 from fun q hm=>pvL_len q (hp q hm).1)
 obtain ⟨aa,ac,rfl⟩:=osl_rows Hka.out (hr w h) dCz
 have Hr:=uQ hr;have Hlen:=uQ hlen;have Hp:=uQ hp;have Hk:=uQ hk;have Hks:=uQ (show (bys k).length=32 by rw [bys_len,hk])
 clear hr hlen hp hk
 obtain ⟨R0,hR0⟩:∃ R0,R0=Tab.setAux k b (ps.map pvK) gone:=⟨_,rfl⟩
 have HR0:=uQ hR0
 rw [← hR0]
 clear hR0
 go_enter Tryz.func12,Tryz.ntmps12
 go_wp2_with (with_reducible apply at_box)
 refine ⟨wl_box h evD evD ?_⟩
 intro bX wX hX
 have h2:Sat w0 wX (osl 70 33 (.slice none 0 0) []::pt bX (.cells (bys k).toArray 31 (0,0))::F):=Sat.osl_nil.2 hX
 clear hX h
 go_wp2_with fail
 go_loopg [9,10,11] ps.length (fun g ov dq iq wr=>∃ (i:Nat) (qs:List PV) (dn:Bool),g=ps.length - i∧i≤ps.length∧iq = .int .i64 i∧dq = .bool dn∧(qs.map pvK++Tab.setAux k b ((ps.map pvK).drop i) dn=R0∧(∀ q∈qs,q∈ps∨q=(k,b,Value.slice ba bn bc))∧qs.length≤2 * i) ∧
  Sat w0 wr (osl 70 33 ov (qs.flatMap pvL)::pt bX (.cells (bys k).toArray 31 (0,0))::F))
 case atStart=>exact ⟨0,[],gone,rfl,Nat.zero_le _,rfl,rfl,⟨by rw [List.drop_zero];exact HR0.out.symm,(fun q hq=>by cases hq),Nat.zero_le _⟩,h2⟩
 case round=>
  obtain ⟨i,qs,dn,rfl,hiN,rfl,rfl,⟨hqs,hqm,hqn⟩,hS⟩:=hrel
  clear h2
  have Hqm:=uQ hqm;have Hqn:=uQ hqn
  have Hql:=uQ (show ∀ q∈qs,(pvL q).length=33 from fun q hq=>by
   rcases hqm q hq with e|e
   ·exact Hka.out q e
   ·rw [e];exact pvL_len _ Hk.out)
  clear hqm hqn
  by_cases hi:i<ps.length
  rotate_left
  ·obtain rfl:i=ps.length:=by omega
   have hic:¬ (ps.length:Int)<(ps.length:Int):=oQ
   rw [List.drop_of_length_le (by rw [List.length_map];exact Nat.le_refl _)]at hqs
   have Hqs:=uQ hqs
   clear hi hiN hqs
   cases dn with
   |true=>
    go_wp2_with fail
    go_ret
    refine ⟨_,rfl,qs,⟨?_,?_⟩,hS.sb⟩
    ·rw [← Hqs.out];unfold Tab.setAux;simp
    ·first|exact Hqm.out|(intro a b c hq;have:=Hqm.out _ hq;simpa using this)
   |false=>
    have hle:(qs.flatMap pvL).length≤2147483648:=by rw [rows_len Hql.out];have:=Hqn.out;have:=Hlen.out;omega
    go_wp2_with (first
     |((with_reducible refine at_load ⟨?_⟩);refine wl_loadA hS rFz pick1 Tryz.underlying31 rfl (by rw [List.size_toArray,Hks.out];kernel_rfl) ?_)
     |((with_reducible apply ug_at_build);refine ⟨?_⟩;refine wl_bld (ps:=#[(0,.agg (bys k).toArray),(1,.slice ba bn bc)]) (by simp only [List.map_toArray,List.map_cons,List.map_nil];rfl) (fun w=>run_pair k Hk.out b ba bn bc w) ?_)
     |((with_reducible refine at_build1 ⟨?_⟩);refine wl_build1 (e:=70) (sz:=33) (by':=56) kRz hS rFz (cs:=(pvL (k,b,Value.slice ba bn bc)).toArray) rfl (by rw [List.size_toArray,pvL_len _ Hk.out]) nLz ?_;intro bN wN hN)
     |((with_reducible refine at_append ⟨?_⟩);refine wl_app 70 33 56 kRz hN rFz rFz (pick_there pick0) pick0 (by rw [List.size_toArray,pvL_len _ Hk.out]) (Nat.le_refl 1) (by rw [List.toList_toArray];exact pvL_ones _ rfl) hle (by rw [List.size_toArray,pvL_len _ Hk.out];decide) dCz rfl ?_;intro bA nA cA wA hA))
    go_ret
    have hmm:∀ q∈qs++[(k,b,Value.slice ba bn bc)],q∈ps∨q=(k,b,Value.slice ba bn bc):=fun q hq=>by
     rcases List.mem_append.1 hq with hq|hq
     ·exact Hqm.out q hq
     ·exact .inr (List.mem_singleton.1 hq)
    refine ⟨_,rfl,qs++[(k,b,Value.slice ba bn bc)],⟨by rw [← Hqs.out,List.map_append];unfold Tab.setAux;rfl,?_⟩,?_⟩
    ·first|exact hmm|(intro a b c hq;have:=hmm _ hq;simpa using this)
    ·rw [List.flatMap_append,List.flatMap_singleton]
     exact hA.sb
  have hic:(i:Int)<(ps.length:Int):=oQ
  have hwi:IntKind.i64.wrap ((i:Int)+1)=(i:Int)+1:=IntWalk.i64_in _ (by have:=Hlen.out;omega)
  obtain ⟨x,hx⟩:∃ x,ps[i]?=some x:=⟨_,List.getElem?_eq_getElem hi⟩
  have hd:(ps.map pvK).drop i=pvK x::(ps.map pvK).drop (i+1):=by
   rw [List.drop_eq_getElem_cons (by rw [List.length_map];exact hi),List.getElem_map]
   rw [List.getElem?_eq_getElem hi]at hx
   cases hx;rfl
  rw [hd]at hqs
  unfold Tab.setAux at hqs
  have Hxm:=uQ (List.mem_of_getElem? hx)
  obtain ⟨hxk,xa,xn,xc,hxv⟩:=Hp.out x Hxm.out
  have Hxk:=uQ hxk;have Hxv:=uQ hxv;have Hi:=uQ hi;have Hx:=uQ hx;have Hqs:=uQ hqs
  have HRow:=uQ (fun (w':World) (L:List HProp) (hL:Ro w0 L (rdsl 33 (.slice aa ps.length ac) (ps.flatMap pvL))) (hw:Sat w0 w' L)=>osl_row Hka.out (hL _ hw) hx dCz)
  clear hx hd hqs hxk hxv hi hiN
  obtain ⟨bk,off,c',hsv,hcell⟩:=HRow.out _ _ (Ro.os Hr.out) hS
  cases hsv
  clear hcell
  have hnk:=fun a b w=>neqG_key a b x.1 k Hxk.out Hk.out w
  have Hnk:=uQ hnk
  have Hxs:=uQ (show (bys x.1).length=32 by rw [bys_len,Hxk.out])
  have HGf:=uQ (fun (w':World) (ov:Value) (ys:List Value) (hw:Sat w0 w' (osl 70 33 ov ys::pt bX (.cells (bys k).toArray 31 (0,0))::F))=>show w'.rangeAt bk (off+i * 33) (bys x.1)∧w'.rangeAt bX 0 (bys k) from by
   obtain ⟨bk2,off2,c2,e2,hcell⟩:=HRow.out _ _ (Ro.os Hr.out:Ro w0 (osl 70 33 ov ys::pt bX (.cells (bys k).toArray 31 (0,0))::F) (rdsl 33 (.slice (some ⟨bk,off,none⟩) ps.length ac) (ps.flatMap pvL))) hw
   cases e2
   exact ⟨fun j z hj=>hcell j z (pvL_key x hj),fun j z hj=>by rw [Nat.zero_add];exact hw.cellP pick1 j (by rw [List.getElem?_toArray];exact hj)⟩)
  have HGw:=uQ (fun (w':World) (ov:Value) (ys:List Value) (hw:Sat w0 w' (osl 70 33 ov ys::pt bX (.cells (bys k).toArray 31 (0,0))::F))=>show (∀ j v,(pvL x)[j]?=some v→w'.cell? ⟨bk,off+i * 33+j,none⟩=some v) from by
   obtain ⟨bk2,off2,c2,e2,hcell⟩:=HRow.out _ _ (Ro.os Hr.out:Ro w0 (osl 70 33 ov ys::pt bX (.cells (bys k).toArray 31 (0,0))::F) (rdsl 33 (.slice (some ⟨bk,off,none⟩) ps.length ac) (ps.flatMap pvL))) hw
   cases e2
   exact hcell)
  clear HRow hnk
  have hle:(qs.flatMap pvL).length≤2147483648:=by rw [rows_len Hql.out];have:=Hqn.out;have:=Hlen.out;have:=Hi.out;omega
  have hcase:dn=true∨(dn=false∧x.1<k)∨(dn=false∧¬ x.1<k):=by
   cases dn
   ·by_cases hlt:x.1<k
    ·exact .inr (.inl ⟨rfl,hlt⟩)
    ·exact .inr (.inr ⟨rfl,hlt⟩)
   ·exact .inl rfl
  rcases hcase with rfl|⟨rfl,hlt⟩|⟨rfl,hlt⟩
  case' inl=>
   have H1:=uQ (show qs.map pvK++((if (pvK x).1≠k then [pvK x] else [])++Tab.setAux k b ((ps.map pvK).drop (i+1)) true)=R0 by
    have:=Hqs.out
    simpa using this)
   have hSd:=hS.drew
   clear hS Hqs hle
   go_wp2_with fail
   refine wpL_begin [] (fun w'=>w'.rangeAt bk (off+i * 33) (bys x.1)∧w'.rangeAt bX 0 (bys k)) kRz ?_
   have hG:World.rangeAt _ bk (off+i * 33) (bys x.1)∧World.rangeAt _ bX 0 (bys k):=HGf.out _ _ _ hSd
   refine rP 0 ?_ (y:=mvQ)
   refine rP 1 ?_ (y:=(yl_un evD rnD))
   refine rP 2 ?_ (y:=mvQ)
   refine rg_skip 3 evD kRz i3z rFz gQ ?_
   refine rg_skip 4 evD kRz i3z rFz gQ ?_
   refine rg_skip 5 evD kRz i3z rFz gQ ?_
   refine rg_skip 6 evD kRz i3z rFz gQ ?_
   refine rg_skip 7 evD kRz i3z rFz gQ ?_
   refine rg_skip 8 evD kRz i3z rFz gQ ?_
   refine rg_skip 9 evD kRz i3z rFz gQ ?_
   refine rg_skip 10 evD kRz i3z rFz gQ ?_
   refine rP 11 ?_ (y:=(yg_pick rFz evD evD))
   clear hG
   refine wpL_done kRz ?_
   try simp only [ayQ]
   try go_frame
   obtain ⟨qs1,hq1⟩:∃ y:List PV,y=qs:=⟨qs,rfl⟩
   have h3:=hSd
   rw [← hq1]at H1 h3
   have Hm1:=uQ (show ∀ q∈qs1,q∈ps∨q=(k,b,Value.slice ba bn bc) by rw [hq1];exact Hqm.out)
   have Hn1:=uQ (show qs1.length≤2 * i+1 by rw [hq1];have:=Hqn.out;omega)
   clear hSd hq1 Hqm Hqn Hql
   go_wp2_with fail
  case' inr.inl=>
   have hld:decide (x.1<k)=true:=decide_eq_true hlt
   have H1:=uQ (show qs.map pvK++((if (pvK x).1≠k then [pvK x] else [])++Tab.setAux k b ((ps.map pvK).drop (i+1)) false)=R0 by
    have:=Hqs.out
    have e:decide ((pvK x).1<k)=true:=hld
    rw [e]at this
    simpa using this)
   have hSd:=hS.drew
   have hls:=rless_c x.1 k Hxk.out Hk.out hSd
   rw [hld]at hls
   clear hS Hqs hlt hle
   go_wp2_with fail
   refine wpL_begin [9,10,11] (fun w'=>w'.rangeAt bk (off+i * 33) (bys x.1)∧w'.rangeAt bX 0 (bys k)) kRz ?_
   have hG:World.rangeAt _ bk (off+i * 33) (bys x.1)∧World.rangeAt _ bX 0 (bys k):=HGf.out _ _ _ hSd
   refine rP 0 ?_ (y:=mvQ)
   refine rP 1 ?_ (y:=(yl_un evD rnD))
   refine rP 2 ?_ (y:=mvQ)
   refine rP 3 ?_ (y:=(yg_move rFz evD))
   refine rP 4 ?_ (y:=(yg_move rFz evD))
   refine rP 5 ?_ (y:=(yg_index rFz evD evD rnD))
   refine rP 6 ?_ (y:=(yg_field rFz evD rnD))
   refine rg_take 7 evD kRz i3z (tg_loadN (b:=bk) (o:=off+i * 33) (bys x.1) rFz rFz Tryz.underlying31 rfl (by rw [Hxs.out];kernel_rfl) (fun w hw=>hw.1)) aQ gQ ?_
   refine rg_take 8 evD kRz i3z (tg_loadN (b:=bX) (o:=0) (bys k) rFz rFz Tryz.underlying31 rfl (by rw [Hks.out];kernel_rfl) (fun w hw=>hw.2)) aQ gQ ?_
   clear hG
   refine rg_eff 9 evD kRz (fun K hK=>?_)
   refine eg_call [.agg (bys x.1).toArray,.agg (bys k).toArray] rFz kRz rFz ?_
   refine hls.mono ?_
   rintro ee w5 ⟨v,rfl,rfl,h5⟩
   refine hK _ _ (.inl rfl) ?_
   clear hK hls hSd
   refine rP 10 ?_ (y:=(yg_un rFz evD rnD))
   refine rP 11 ?_ (y:=(yg_pick rFz evD evD))
   refine wpL_done kRz ?_
   try simp only [ayQ]
   try go_frame
   obtain ⟨qs1,hq1⟩:∃ y:List PV,y=qs:=⟨qs,rfl⟩
   have h3:=h5
   rw [← hq1]at H1 h3
   have Hm1:=uQ (show ∀ q∈qs1,q∈ps∨q=(k,b,Value.slice ba bn bc) by rw [hq1];exact Hqm.out)
   have Hn1:=uQ (show qs1.length≤2 * i+1 by rw [hq1];have:=Hqn.out;omega)
   clear h5 hq1 Hqm Hqn Hql hld
   go_wp2_with fail
  case' inr.inr=>
   have hld:decide (x.1<k)=false:=decide_eq_false hlt
   have H1:=uQ (show (qs++[(k,b,Value.slice ba bn bc)]).map pvK++((if (pvK x).1≠k then [pvK x] else [])++Tab.setAux k b ((ps.map pvK).drop (i+1)) true)=R0 by
    have:=Hqs.out
    have e:decide ((pvK x).1<k)=false:=hld
    rw [e]at this
    rw [List.map_append,List.append_assoc]
    simpa [pvK] using this)
   have hSd:=hS.drew
   have hls:=rless_c x.1 k Hxk.out Hk.out hSd
   rw [hld]at hls
   clear hS Hqs hlt
   go_wp2_with fail
   refine wpL_begin [9,10,11] (fun w'=>w'.rangeAt bk (off+i * 33) (bys x.1)∧w'.rangeAt bX 0 (bys k)) kRz ?_
   have hG:World.rangeAt _ bk (off+i * 33) (bys x.1)∧World.rangeAt _ bX 0 (bys k):=HGf.out _ _ _ hSd
   refine rP 0 ?_ (y:=mvQ)
   refine rP 1 ?_ (y:=(yl_un evD rnD))
   refine rP 2 ?_ (y:=mvQ)
   refine rP 3 ?_ (y:=(yg_move rFz evD))
   refine rP 4 ?_ (y:=(yg_move rFz evD))
   refine rP 5 ?_ (y:=(yg_index rFz evD evD rnD))
   refine rP 6 ?_ (y:=(yg_field rFz evD rnD))
   refine rg_take 7 evD kRz i3z (tg_loadN (b:=bk) (o:=off+i * 33) (bys x.1) rFz rFz Tryz.underlying31 rfl (by rw [Hxs.out];kernel_rfl) (fun w hw=>hw.1)) aQ gQ ?_
   refine rg_take 8 evD kRz i3z (tg_loadN (b:=bX) (o:=0) (bys k) rFz rFz Tryz.underlying31 rfl (by rw [Hks.out];kernel_rfl) (fun w hw=>hw.2)) aQ gQ ?_
   clear hG
   refine rg_eff 9 evD kRz (fun K hK=>?_)
   refine eg_call [.agg (bys x.1).toArray,.agg (bys k).toArray] rFz kRz rFz ?_
   refine hls.mono ?_
   rintro ee w5 ⟨v,rfl,rfl,h5⟩
   refine hK _ _ (.inl rfl) ?_
   clear hK hls hSd
   refine rP 10 ?_ (y:=(yg_un rFz evD rnD))
   refine rP 11 ?_ (y:=(yg_pick rFz evD evD))
   refine wpL_done kRz ?_
   try simp only [ayQ]
   try go_frame
   go_wp2_with (first
    |((with_reducible refine at_load ⟨?_⟩);refine wl_loadA h5 rFz pick1 Tryz.underlying31 rfl (by rw [List.size_toArray,Hks.out];kernel_rfl) ?_)
    |((with_reducible apply ug_at_build);refine ⟨?_⟩;refine wl_bld (ps:=#[(0,.agg (bys k).toArray),(1,.slice ba bn bc)]) (by simp only [List.map_toArray,List.map_cons,List.map_nil];rfl) (fun w=>run_pair k Hk.out b ba bn bc w) ?_)
    |((with_reducible refine at_build1 ⟨?_⟩);refine wl_build1 (e:=70) (sz:=33) (by':=56) kRz h5 rFz (cs:=(pvL (k,b,Value.slice ba bn bc)).toArray) rfl (by rw [List.size_toArray,pvL_len _ Hk.out]) nLz ?_;intro bN wN hN)
    |(with_reducible apply at_append))
   refine ⟨wl_app 70 33 56 kRz hN rFz rFz (pick_there pick0) pick0 (by rw [List.size_toArray,pvL_len _ Hk.out]) (Nat.le_refl 1) (by rw [List.toList_toArray];exact pvL_ones _ rfl) hle (by rw [List.size_toArray,pvL_len _ Hk.out];decide) dCz rfl ?_⟩
   intro bA nA cA wA hA
   obtain ⟨qs1,hq1⟩:∃ y:List PV,y=qs++[(k,b,Value.slice ba bn bc)]:=⟨_,rfl⟩
   have h3:Sat w0 wA (osl 70 33 (.slice (some ⟨bA,0,none⟩) nA cA) (qs1.flatMap pvL)::pt bX (.cells (bys k).toArray 31 (0,0))::F):=by
    rw [hq1,List.flatMap_append,List.flatMap_singleton]
    exact hA.sb
   rw [← hq1]at H1
   have Hm1:=uQ (show ∀ q∈qs1,q∈ps∨q=(k,b,Value.slice ba bn bc) from fun q hq=>by
    rw [hq1]at hq
    rcases List.mem_append.1 hq with hq|hq
    ·exact Hqm.out q hq
    ·exact .inr (List.mem_singleton.1 hq))
   have Hn1:=uQ (show qs1.length≤2 * i+1 by rw [hq1,List.length_append,List.length_singleton];have:=Hqn.out;omega)
   clear h5 hq1 Hqm Hqn Hql hld hA hN hle
   go_wp2_with fail
  all_goals
   have Hql1:=uQ (show ∀ q∈qs1,(pvL q).length=33 from fun q hq=>by
    rcases Hm1.out q hq with e|e
    ·exact Hka.out q e
    ·rw [e];exact pvL_len _ Hk.out)
   have hSd:=h3.drew
   clear h3
   by_cases hxk2:x.1=k
   ·have H2:=uQ (show qs1.map pvK++Tab.setAux k b ((ps.map pvK).drop (i+1)) _=R0 from by
     have:=H1.out
     rw [if_neg (show ¬ (pvK x).1≠k from fun q=>q hxk2),List.nil_append]at this
     exact this)
    have hnk2:∀ a b w,((do eqGuard .neq 31 a b (.agg (bys x.1).toArray) (.agg (bys k).toArray);binOp .neq 31 (.agg (bys x.1).toArray) (.agg (bys k).toArray)):Sem Value).run Tryz.prog w = .ok (.bool false) w:=fun a b w=>by rw [Hnk.out a b w,decide_eq_true hxk2];rfl
    clear hxk2 H1
    refine wpL_begin [] (fun w'=>w'.rangeAt bk (off+i * 33) (bys x.1)∧w'.rangeAt bX 0 (bys k)) kRz ?_
    have hG:World.rangeAt _ bk (off+i * 33) (bys x.1)∧World.rangeAt _ bX 0 (bys k):=HGf.out _ _ _ hSd
    refine rP 0 ?_ (y:=mvQ)
    refine rP 1 ?_ (y:=mvQ)
    refine rP 2 ?_ (y:=ixQ)
    refine rP 3 ?_ (y:=flQ)
    refine rg_take 4 evD kRz i3z (tk_loadN (b:=bk) (o:=off+i * 33) (bys x.1) rFz Tryz.underlying31 rfl (by rw [Hxs.out];kernel_rfl) (fun w hw=>hw.1)) aQ gQ ?_
    refine rg_take 5 evD kRz i3z (tk_loadN (b:=bX) (o:=0) (bys k) rFz Tryz.underlying31 rfl (by rw [Hks.out];kernel_rfl) (fun w hw=>hw.2)) aQ gQ ?_
    clear hG
    refine rP 6 ?_ (y:=(yl_bin evD evD (hnk2 _ _)))
    refine wpL_done kRz ?_
    try simp only [ayQ]
    try go_frame
    go_wp2_with fail
    go_roundg (ps.length - (i+1))
    case measure=>have:=Hi.out;omega
    case rel=>exact ⟨i+1,qs1,_,rfl,Hi.out,by first|rfl|go_num,rfl,⟨H2.out,Hm1.out,by have:=Hn1.out;omega⟩,hSd⟩
   ·have H2:=uQ (show (qs1++[x]).map pvK++Tab.setAux k b ((ps.map pvK).drop (i+1)) _=R0 from by
     have:=H1.out
     rw [if_pos (show (pvK x).1≠k from hxk2)]at this
     rw [List.map_append,List.append_assoc]
     exact this)
    have hnk2:∀ a b w,((do eqGuard .neq 31 a b (.agg (bys x.1).toArray) (.agg (bys k).toArray);binOp .neq 31 (.agg (bys x.1).toArray) (.agg (bys k).toArray)):Sem Value).run Tryz.prog w = .ok (.bool true) w:=fun a b w=>by rw [Hnk.out a b w,decide_eq_false hxk2];rfl
    have hle:(qs1.flatMap pvL).length≤2147483648:=by rw [rows_len Hql1.out];have:=Hn1.out;have:=Hlen.out;have:=Hi.out;omega
    clear hxk2 H1
    refine wpL_begin [] (fun w'=>w'.rangeAt bk (off+i * 33) (bys x.1)∧w'.rangeAt bX 0 (bys k)) kRz ?_
    have hG:World.rangeAt _ bk (off+i * 33) (bys x.1)∧World.rangeAt _ bX 0 (bys k):=HGf.out _ _ _ hSd
    refine rP 0 ?_ (y:=mvQ)
    refine rP 1 ?_ (y:=mvQ)
    refine rP 2 ?_ (y:=ixQ)
    refine rP 3 ?_ (y:=flQ)
    refine rg_take 4 evD kRz i3z (tk_loadN (b:=bk) (o:=off+i * 33) (bys x.1) rFz Tryz.underlying31 rfl (by rw [Hxs.out];kernel_rfl) (fun w hw=>hw.1)) aQ gQ ?_
    refine rg_take 5 evD kRz i3z (tk_loadN (b:=bX) (o:=0) (bys k) rFz Tryz.underlying31 rfl (by rw [Hks.out];kernel_rfl) (fun w hw=>hw.2)) aQ gQ ?_
    clear hG
    refine rP 6 ?_ (y:=(yl_bin evD evD (hnk2 _ _)))
    refine wpL_done kRz ?_
    try simp only [ayQ]
    try go_frame
    have hcell:=HGw.out _ _ _ hSd
    go_wp2_with (first
     |((with_reducible refine at_load ⟨?_⟩);refine wl_loadW (b:=bk) (o:=off+i * 33) (pvL x) rFz hcell Tryz.underlying70 rfl (by rw [pvL_len _ Hxk.out];kernel_rfl) ?_)
     |((with_reducible refine at_build1 ⟨?_⟩);refine wl_build1 (e:=70) (sz:=33) (by':=56) kRz hSd rFz (cs:=(pvL x).toArray) rfl (by rw [List.size_toArray,pvL_len _ Hxk.out]) nLz ?_;intro bN wN hN)
     |((with_reducible refine at_append ⟨?_⟩);refine wl_app 70 33 56 kRz hN rFz rFz (pick_there pick0) pick0 (by rw [List.size_toArray,pvL_len _ Hxk.out]) (Nat.le_refl 1) (by rw [List.toList_toArray];exact pvL_ones _ Hxv.out) hle (by rw [List.size_toArray,pvL_len _ Hxk.out];decide) dCz rfl ?_;intro bA nA cA wA hA))
    go_roundg (ps.length - (i+1))
    case measure=>have:=Hi.out;omega
    case rel=>
     refine ⟨i+1,qs1++[x],_,rfl,Hi.out,by first|rfl|go_num,rfl,⟨H2.out,fun q hq=>?_,by rw [List.length_append,List.length_singleton];have:=Hn1.out;omega⟩,?_⟩
     ·rcases List.mem_append.1 hq with hq|hq
      ·exact Hm1.out q hq
      ·exact .inl (by rw [List.mem_singleton.1 hq];exact Hxm.out)
     ·rw [List.flatMap_append,List.flatMap_singleton]
      exact hA.sb
end
end Go.Proofs.YtjbhhbnopnmcnaaGreatDoor
namespace Go.Seg
open Go.Med
open Go.Frm (Bs Ent encs GoodE)
open Go.Rep
theorem Rp.setRoom {K r E B n:Nat}{L:Log}{M:Med}{C:List (List Ent)} (h:Rp K r E B n L M C) (z:Nat) (h1:M.used≤z) (h2:z≤16777216):M.setRoom z=({ M with room:=z },0)∧Rp K z E B n L { M with room:=z } C:=by
 obtain ⟨a1,a2⟩:=setRoom_calm h.hg.keeps.calm z h1 h2
 have g:=h.hg
 exact ⟨a1,⟨⟨g.keeps.log,a2,g.keeps.has⟩,g.len,g.at_,g.file,g.good,g.count,g.used,g.names,g.cover⟩,h.tmp,h.few,h.small⟩
end Go.Seg
namespace Go.Proofs.YtjbhhbnopnmcnaaGreatDoor
open Go Go.Sl Go.Med Go.MapKept Go.RowKit
section
variable {w0 w:World}{F R:List HProp}{r m K r0 E n:Nat}{seg:Int}{o oc:Frm.Bs→Option Frm.Bs}{d:Bool}
theorem Ro.of_imp {F G:List HProp}{X:World→Prop} (h:Ro w0 F X) (hs:∀ w,Sat w0 w G→Sat w0 w F):Ro w0 G X:=fun w hw=>h w (hs w hw)
theorem dataQ_at:∀ (es:List QD) (i:Nat) (d:QD),es[i]?=some d→∃ G,dataQ es=star (bsl d.dv d.c.data) G
 |[],_,_,h=>by cases h
 |x::es,0,d,h=>by
  obtain rfl:x=d:=by simpa using h
  exact ⟨_,rfl⟩
 |x::es,i+1,d,h=>by
  obtain ⟨G,hG⟩:=dataQ_at es i d (by simpa using h)
  refine ⟨star (bsl x.dv x.c.data) G,?_⟩
  show star (bsl x.dv x.c.data) (dataQ es)=_
  rw [hG,star_left_comm]
theorem dataQ_ro {es:List QD}{i:Nat}{d:QD} (h:es[i]?=some d):Ro w0 (dataQ es::R) (rdsl 1 d.dv (bys d.c.data)):=fun w hw=>by
 obtain ⟨G,hG⟩:=dataQ_at es i d h
 rw [hG]at hw
 exact Sat.rd (Sat.star.1 hw)
theorem dataV_at:∀ (es:List PV) (i:Nat) (d:PV),es[i]?=some d→∃ G,dataV es=star (bsl d.2.2 d.2.1) G
 |[],_,_,h=>by cases h
 |x::es,0,d,h=>by
  obtain rfl:x=d:=by simpa using h
  exact ⟨_,rfl⟩
 |x::es,i+1,d,h=>by
  obtain ⟨G,hG⟩:=dataV_at es i d (by simpa using h)
  refine ⟨star (bsl x.2.2 x.2.1) G,?_⟩
  show star (bsl x.2.2 x.2.1) (dataV es)=_
  rw [hG,star_left_comm]
theorem dataV_ro {es:List PV}{q:PV} (h:q∈es):Ro w0 (dataV es::R) (rdsl 1 q.2.2 (bys q.2.1)):=fun w hw=>by
 obtain ⟨i,hi⟩:=List.getElem?_of_mem h
 obtain ⟨G,hG⟩:=dataV_at es i q hi
 rw [hG]at hw
 exact Sat.rd (Sat.star.1 hw)
theorem qds_at {es:List QD}{v:Value}{i:Nat}{d:QD} (hk:∀ d∈es,d.c.key.length=32) (hi:es[i]?=some d) (h:Sat w0 w (osl 41 37 v (qdsL es)::R)) :
  ∃ bk off c,v = .slice (some ⟨bk,off,none⟩) es.length c∧∀ j y,(qdL d)[j]?=some y→w.cell? ⟨bk,off+i * 37+j,none⟩=some y:=by
 have hr:=Sat.rd h
 obtain ⟨a,n,c,rfl,hl,hx⟩:=id hr
 rw [qdsL_len hk]at hl
 obtain rfl:n=es.length:=by omega
 have hx0:(qdsL es)[i * 37+0]?=some (.int .i64 d.c.kind):=qdsL_at hk hi rfl
 obtain ⟨bk,off,rfl,hcell⟩:=rdsl_cells hr hx0
 refine ⟨bk,off,c,rfl,fun j y hj=>?_⟩
 have:=hcell _ _ (qdsL_at hk hi hj)
 rw [← Nat.add_assoc]at this
 exact this
theorem qds_len {es:List QD}{v:Value} (hk:∀ d∈es,d.c.key.length=32) (h:Sat w0 w (osl 41 37 v (qdsL es)::R)):∃ a c,v = .slice a es.length c:=by
 obtain ⟨a,n,c,rfl,hl,hx⟩:=Sat.rd h
 rw [qdsL_len hk]at hl
 obtain rfl:n=es.length:=by omega
 exact ⟨a,c,rfl⟩
theorem fewQ_ok {es ds:List QD}{n:Nat} (h:es.map (·.c)=Rep.fewQ (ds.map (·.c)) n) (hk:∀ d∈ds,d.c.key.length=32):es.length≤n∧∀ d∈es,d.c.key.length=32∧d.c.data.length≤300:=by
 refine ⟨?_,fun d hd=>?_⟩
 ·have:=congrArg List.length h
  unfold Rep.fewQ at this
  rw [List.length_map,List.length_map,List.length_take]at this
  omega
 ·have h1:d.c∈es.map (·.c):=List.mem_map.2 ⟨d,hd,rfl⟩
  rw [h]at h1
  unfold Rep.fewQ at h1
  obtain ⟨x,hx,e⟩:=List.mem_map.1 h1
  obtain ⟨y,hy,rfl⟩:=List.mem_map.1 (List.mem_of_mem_take hx)
  rw [← e]
  exact ⟨hk y hy,by show (y.c.data.take 200).length≤300;rw [List.length_take];omega⟩
theorem RSt.room (h:RSt w0 r m seg K r0 E n o oc d F w):∃ (U:Nat) (M:Med) (G:List HProp),U≤r0∧M.Ok K∧M.usedTold=U∧Sat w0 w (MedRep m M::G)∧∀ z:Int,(U:Int)≤z→z≤16777216→(M.setRoom z).2=0∧∀ w',Sat w0 w' (MedRep m (M.setRoom z).1::G)→RSt w0 r m seg K z.toNat E n o oc d F w':=by
 obtain ⟨ps,p,pn,pi,B,B2,B0,uv,tv,N,us,L,M,C,C0,hf,hS⟩:=h
 have hc:=hf.rp.hg.keeps.calm
 have hu:=hc.used
 have hr:=hc.room
 refine ⟨M.used,M,rpPt r m seg p ps pn d::TabML pn (Rep.nowOf (Rep.rowsC 0 C)) B::LogRep p m L::stPt ps N pi uv tv::TabML pi (Rep.nowOf (Rep.rowsC 0 C0)) B2::osl 113 3 uv (us.flatMap uenc)::F,by omega,hc.ok,?_,hS.sb,fun z h1 h2=>?_⟩
 ·unfold Med.usedTold
  rw [hc.quiet.off];rfl
 ·obtain ⟨k,rfl⟩:=Int.eq_ofNat_of_zero_le (show 0≤z by omega)
  obtain ⟨a1,a2⟩:=hf.rp.setRoom k oQ oQ
  simp only [Int.toNat_natCast]at a1 ⊢
  rw [a1]
  exact ⟨rfl,fun w' hw=>⟨ps,p,pn,pi,B,B2,B0,uv,tv,N,us,L,_,C,C0,⟨a2,hf.frs,hf.now,hf.was,hf.clean,hf.b1,hf.b2⟩,hw.sb⟩⟩
theorem RSt.push (h:RSt w0 r m seg K r0 E n o oc d F w):∃ G:List HProp,Sat w0 w G∧(∀ w',Sat w0 w' G→RSt w0 r m seg K r0 E n o oc d F w')∧(∀ (A:HProp) (w':World),Sat w0 w' (A::G)→RSt w0 r m seg K r0 E n o oc d (A::F) w')∧(∀ w',Sat w0 w' G→Sat w0 w' F):=by
 obtain ⟨G,h1,h2,h3⟩:=h.sat
 exact ⟨G,h1,fun w' hw=>(h2 _ _ (Sat.emp.2 hw)).drop,h2,h3⟩
end
section
variable {w0 w:World}{F:List HProp}{lv:Value}
set_option maxRecDepth 20000 in
theorem repo_full_c (z room:Int) (ds:List QD) (hr:Ro w0 F (rdsl 37 lv (qdsL ds))) (he:∀ d∈ds,QDRo w0 F d) (k:Frm.Bs) (hk:k.length=32) (b:Frm.Bs) (da:Option Addr) (dn dc:Nat) (h1d:dn≤dc) (h2d:dc≤9223372036854775807) (hd:Ro w0 F (rdsl 1 (.slice da dn dc) (bys b))) (hH:Ro w0 F Half) (h:Sat w0 w F) :
  Calls Tryz.prog 4 #[.int .i64 z,.int .i64 room,lv,.agg (bys k).toArray,.slice da dn dc] w (Rtn fun v w'=>v = .bool true∧Sat w0 w' F):=by
 obtain ⟨D,hD⟩:∃ D,D=b.take 300:=⟨_,rfl⟩
 have hdn:dn=b.length:=by
  obtain ⟨a',n',c',e,hl,_⟩:=hd w h
  cases e
  rw [bys_len,Nat.mul_one]at hl;exact hl.symm
 have hmin:min dn 300=D.length:=by rw [hD,hdn,List.length_take];omega
 have HD:=uQ (show Ro w0 F (rdsl 1 (.slice da D.length dc) (bys D)) from fun w' hw=>by
  have:=rdsl_cut (k:=300) (hd w' hw)
  rw [hmin]at this
  rw [hD]at this ⊢
  exact this)
 have HDl:=uQ (show D.length≤300 by rw [hD,List.length_take];omega)
 have hcut:∀ w,Calls Tryz.prog 16 #[.slice da dn dc,.int .i64 300] w (Rtn fun v w'=>v = .slice da D.length dc∧w=w'):=fun w=>by
  have:=cut_c da dn dc 300 h1d h2d w
  rw [hmin]at this
  exact this
 have Hr:=uQ hr;have He:=uQ he;have HH:=uQ hH;have Hk:=uQ hk
 have Hks:=uQ (show (bys k).length=32 by rw [bys_len,hk])
 clear hr he hH hk hd hmin hdn hD h1d h2d
 go_enter Tryz.func4,Tryz.ntmps4
 go_wp2_with (with_reducible apply at_box)
 refine ⟨wl_box h rFz rFz ?_⟩
 intro bX w1 h1
 clear h
 go_wp2_with fail
 refine (fewQ_c ds 30 dCz (Ro.os Hr.out) (fun d hd=>(He.out d hd).of_sub fun w hw=>hw.sb) h1).mono ?_
 rintro ee w2 ⟨v,rfl,es,ov,rfl,hes,_,h2⟩
 obtain ⟨q1,q2⟩:=fewQ_ok hes (fun d hd=>(He.out d hd).key)
 have Hel:=uQ q1;have Hek:=uQ q2
 obtain ⟨oa,oc',rfl⟩:=qds_len (fun d hd=>(Hek.out d hd).1) h2
 clear h1 hes q1 q2
 go_wp2_with fail
 refine (hcut _).mono ?_
 rintro ee w3 ⟨v,rfl,rfl,rfl⟩
 clear hcut
 have hnew:=new_yes 1048576 dCz h2
 have hlim:=within_mem z 128 3000 dCz
 have hwi:=within_c z 128 3000
 generalize within z 128 3000=lim at *
 clear h2
 go_wp2_with fail
 refine hnew.mono ?_
 rintro ee w4 ⟨v,rfl,m,rfl,h4⟩
 clear hnew
 go_wp2_with fail
 refine (hwi _).mono ?_
 rintro ee w5 ⟨v,rfl,rfl,rfl⟩
 clear hwi
 have hop:=sopen_c (K:=0) hlim.1 oQ (Seg.Calm.new 0 1048576 dCz) (Nat.zero_le _) rfl (Ro.os HH.out) h4
 clear h4 hlim
 go_wp2_with fail
 refine hop.mono ?_
 rintro ee w6 ⟨v,rfl,r,rfl,h6⟩
 clear hop
 obtain ⟨G,hS,_,hpush,_⟩:=h6.push
 clear h6
 go_wp2_with (with_reducible apply at_alloc)
 refine ⟨wl_alloc zFlt hS rfl ?_⟩
 intro b14 w7 h7
 go_wp2_with (with_reducible apply at_store)
 refine ⟨wl_storeA (fltA Rep.Flt.zero) h7 rFz rFz rFz upd0 kRz rFz ?_⟩
 intro w8 h8
 have h9:=hpush _ _ h8
 clear hS hpush h7 h8
 go_wp2_with fail
 go_loopg [16] es.length (fun g iq wr=>∃ (i:Nat) (o oc:Frm.Bs→Option Frm.Bs) (d:Bool),g=es.length - i∧i≤es.length∧iq = .int .i64 i ∧
  RSt w0 r m lim (i * 605) 1048576 (2 * i) i o oc d (pt b14 (.cells (fltA Rep.Flt.zero) 33 (0,0))::osl 41 37 (.slice oa es.length oc') (qdsL es)::dataQ es::pt bX (.cells (bys k).toArray 31 (0,0))::F) wr)
 case atStart=>exact ⟨0,_,_,_,rfl,Nat.zero_le _,rfl,h9⟩
 case round=>
  obtain ⟨i,o,oc,d,rfl,hi,rfl,hS⟩:=hrel
  clear h9
  by_cases hlt:i<es.length
  ·have c1:(i:Int)<(es.length:Int):=by omega
   have hwi:IntKind.i64.wrap ((i:Int)+1)=(i:Int)+1:=IntWalk.i64_in _ (by have:=Hel.out;omega)
   obtain ⟨x,hx⟩:∃ x,es[i]?=some x:=⟨_,List.getElem?_eq_getElem hlt⟩
   have Hlt:=uQ hlt
   have hxk:=Hek.out x (List.mem_of_getElem? hx)
   have Hxk:=uQ hxk
   obtain ⟨G,hG,hback,_,hdrop⟩:=hS.push
   obtain ⟨bk,off,c,hov,hcells⟩:=qds_at (fun d hd=>(Hek.out d hd).1) hx ((hdrop _ hG).pick pick1)
   cases hov
   have hxd:Ro w0 (pt b14 (.cells (fltA Rep.Flt.zero) 33 (0,0))::osl 41 37 (.slice (some ⟨bk,off,none⟩) es.length oc') (qdsL es)::dataQ es::pt bX (.cells (bys k).toArray 31 (0,0))::F) (rdsl 1 x.dv (bys x.c.data)):=Ro.of_pick (dataQ_ro hx) pick2
   have Hxd:=uQ hxd
   have e0:wr.cell? ⟨bk,off+i * 37,none⟩=some (.int .i64 x.c.kind):=hcells 0 _ rfl
   have Hcells:=uQ hcells
   clear hcells hxd hlt hi hxk hx hG hback hdrop
   by_cases hk0:0≤x.c.kind
   ·by_cases hk3:x.c.kind<3
    ·go_wp2_with ((with_reducible refine at_load ⟨?_⟩);refine wl_loadW (b:=bk) (o:=off+i * 37) (qdL x) rFz Hcells.out Tryz.underlying41 rfl (by rw [qdL_len _ Hxk.out.1];exact infoQo) ?_)
     refine (does012_c (n:=i) (E:=2 * i) (K:=i * 605) x Hxk.out.1 ⟨hk0,hk3⟩ Hxd.out Hxk.out.2 (by have:=Hel.out;have:=Hlt.out;omega) (by have:=Hel.out;have:=Hlt.out;omega) (by have:=Hel.out;have:=Hlt.out;omega) (Ro.os HH.out) hS).mono ?_
     rintro ee w10 ⟨v,rfl,e,o2,oc2,d2,rfl,h10⟩
     clear hS e0
     go_wp2_with fail
     go_roundg (es.length - (i+1))
     case measure=>have:=Hlt.out;omega
     case rel=>exact ⟨i+1,o2,oc2,d2,rfl,Nat.succ_le_of_lt Hlt.out,by first|rfl|go_num,by rw [show (i+1) * 605=i * 605+605 by omega,show 2 * (i+1)=2 * i+2 by omega];exact h10⟩
    ·go_wp2_with fail
     go_roundg (es.length - (i+1))
     case measure=>have:=Hlt.out;omega
     case rel=>exact ⟨i+1,o,oc,d,rfl,Nat.succ_le_of_lt Hlt.out,by first|rfl|go_num,hS.mono oQ oQ oQ⟩
   ·go_wp2_with fail
    go_roundg (es.length - (i+1))
    case measure=>have:=Hlt.out;omega
    case rel=>exact ⟨i+1,o,oc,d,rfl,Nat.succ_le_of_lt Hlt.out,by first|rfl|go_num,hS.mono oQ oQ oQ⟩
  ·obtain rfl:i=es.length:=by omega
   have c1:¬ (es.length:Int)<(es.length:Int):=oQ
   have h30:RSt w0 r m lim 18150 1048576 60 30 o oc d (pt b14 (.cells (fltA Rep.Flt.zero) 33 (0,0))::osl 41 37 (.slice oa es.length oc') (qdsL es)::dataQ es::pt bX (.cells (bys k).toArray 31 (0,0))::F) wr:=hS.mono (by have:=Hel.out;omega) (by have:=Hel.out;omega) Hel.out
   have hmap:=map17_c dCz (Ro.os HH.out) h30
   clear hS h30 hlt hi
   go_wp2_with fail
   refine hmap.mono ?_
   rintro ee w11 ⟨v,rfl,mv,qs,rfl,⟨hq1,hq2,hq3,hq4⟩,h11⟩
   clear hmap
   have Hq1:=uQ hq1;have Hq2:=uQ hq2;have Hq3:=uQ hq3;have Hq4:=uQ hq4
   obtain ⟨U,M,G,u1,u2,u3,u4,u5⟩:=h11.room
   clear hq1 hq2 hq3 hq4 h11
   have hwu:IntKind.i64.wrap ((U:Int)+200)=(U:Int)+200:=IntWalk.i64_in _ oQ
   have hur:=fun w h=>used_rep (w0:=w0) (w:=w) (m:=m) (F:=G) u2 h
   rw [u3]at hur
   have hin:=within_mem room U (U+200) oQ
   have hwr:=within_c room U (U+200)
   generalize within room U (U+200)=rm at *
   have hset:=fun w h=>setRoom_c (w0:=w0) (w:=w) (m:=m) (M:=M) (F:=G) h rm
   obtain ⟨u6,u7⟩:=u5 rm hin.1 oQ
   rw [u6]at hset
   have Hback:=uQ u7
   generalize (M.setRoom rm).1=M2 at *
   generalize rm.toNat=r1 at *
   clear u1 u2 u3 u5 u6 u7 hin
   go_wp2_with fail
   refine (hur _ u4).mono ?_
   rintro ee w12 ⟨v,rfl,rfl,h12⟩
   clear u4
   go_wp2_with fail
   refine (hur _ h12).mono ?_
   rintro ee w13 ⟨v,rfl,rfl,h13⟩
   clear h12 hur
   go_wp2_with fail
   refine (hwr _).mono ?_
   rintro ee w14 ⟨v,rfl,rfl,rfl⟩
   go_wp2_with fail
   refine (hset _ h13).mono ?_
   rintro ee w15 ⟨v,rfl,rfl,h15⟩
   have h16:=Hback.out _ h15
   clear h13 h15 Hback hwr hset hwu
   obtain ⟨G2,hG2,_,_,hdrop⟩:=h16.push
   have hkc:∀ j v,(bys k)[j]?=some v→w15.cell? ⟨bX,0+j,none⟩=some v:=fun j v hj=>by
    rw [Nat.zero_add]
    exact ((hdrop _ hG2).pick pick5).cellP pick0 j (by rw [List.getElem?_toArray];exact hj)
   clear hG2 hdrop
   go_wp2_with ((with_reducible refine at_load ⟨?_⟩);refine wl_loadW (b:=bX) (o:=0) (bys k) rFz hkc Tryz.underlying31 rfl (by rw [Hks.out];kernel_rfl) ?_)
   clear hkc
   refine (sput_c (n:=30) (E:=60) (K:=18150) dCz dCz dCz Hk.out D da dc (Ro.os HD.out) HDl.out (Ro.os HH.out) h16).mono ?_
   clear h16
   rintro ee w17 ⟨v,rfl,⟨rfl,h17⟩|⟨rfl,h17⟩⟩
   ·have hmap:=map17_c dCz (Ro.os HH.out) h17
    clear h17
    go_wp2_with fail
    refine hmap.mono ?_
    rintro ee w18 ⟨v,rfl,nv,rs,rfl,⟨hr1,hr2,hr3,hr4⟩,h18⟩
    clear hmap
    have Hr1:=uQ hr1;have Hr2:=uQ hr2;have Hr3:=uQ hr3;have Hr4:=uQ hr4
    obtain ⟨G,hG,hback,hpush,hdrop⟩:=h18.push
    have hset:=set17_c qs Hq2.out (Ro.of_imp (Ro.of_pick (fun w hw=>Sat.rd hw) pick2) hdrop) (Nat.le_trans Hq3.out dCz) k Hk.out D da D.length dc false hG
    have hkc:∀ j v,(bys k)[j]?=some v→w18.cell? ⟨bX,0+j,none⟩=some v:=fun j v hj=>by
     rw [Nat.zero_add]
     exact ((hdrop _ hG).pick pick7).cellP pick0 j (by rw [List.getElem?_toArray];exact hj)
    have Hpush:=uQ hpush;have Hdrop:=uQ hdrop
    clear hr1 hr2 hr3 hr4 h18 hpush hdrop hback hG
    go_wp2_with (first
     |((with_reducible refine at_load ⟨?_⟩);refine wl_loadW (b:=bX) (o:=0) (bys k) rFz hkc Tryz.underlying31 rfl (by rw [Hks.out];kernel_rfl) ?_)
     |((with_reducible apply ug_load);refine ⟨?_⟩;refine ug_op (by first|rfl|kernel_rfl) ?_))
    clear hkc
    refine hset.mono ?_
    rintro ee w19 ⟨v,rfl,us,⟨hu1,hu2⟩,h19⟩
    clear hset
    have hsm:=sameMap_c (av:=nv) (bv:=v) rs us (by
      rw [hu1]
      exact Hr1.out.unique (Tab.set_lists Hq1.out))
     (fun q hq=>(Hr2.out q hq).1) (Ro.of_imp (Ro.of_pick (fun w hw=>Sat.rd hw) pick0) fun w hw=>Hdrop.out w hw.drop) (fun w hw=>Sat.rd hw)
     (fun q hq=>Ro.of_imp (Ro.of_pick (dataV_ro hq) pick1) fun w hw=>Hdrop.out w hw.drop)
     (fun q hq=>by
      rcases hu2 q hq with e|rfl
      ·exact Ro.of_imp (Ro.of_pick (dataV_ro e) pick3) fun w hw=>Hdrop.out w hw.drop
      ·exact Ro.of_imp (Ro.os HD.out) fun w hw=>Hdrop.out w hw.drop)
     (Nat.le_trans Hr3.out dCz) (fun q hq=>Nat.le_trans (Hr4.out q hq) dCz) h19
    clear hu1 hu2 h19
    go_wp2_with fail
    refine hsm.mono ?_
    rintro ee w20 ⟨v,rfl,rfl,h20⟩
    have h21:=Hpush.out _ _ h20
    clear h20 hsm Hpush Hdrop
    go_wp2_with fail
    refine (srol_c dCz dCz h21).mono ?_
    rintro ee w22 ⟨v,rfl,rfl,h22⟩
    clear h21
    go_wp2_with fail
    refine (sdirty_c h22).mono ?_
    rintro ee w23 ⟨v,rfl,rfl,rfl⟩
    obtain ⟨G,hG,_,_,hdrop⟩:=h22.push
    have h23:Sat w0 w22 F:=(hdrop _ hG).sb
    clear h22 hG hdrop
    go_wp2_with fail
    refine (lives17_c HH.out h23).mono ?_
    rintro ee w24 ⟨v,rfl,rfl,h24⟩
    go_wp2_with fail
    go_ret
    exact ⟨_,rfl,rfl,h24⟩
   ·have hmap:=map17_c dCz (Ro.os HH.out) h17
    clear h17
    go_wp2_with fail
    refine hmap.mono ?_
    rintro ee w18 ⟨v,rfl,nv,rs,rfl,⟨hr1,hr2,hr3,hr4⟩,h18⟩
    clear hmap
    obtain ⟨G,hG,hback,_,hdrop⟩:=h18.push
    have hsm:=sameMap_c (av:=nv) (bv:=mv) rs qs (hr1.unique Hq1.out)
     (fun q hq=>(hr2 q hq).1) (Ro.of_imp (Ro.of_pick (fun w hw=>Sat.rd hw) pick0) hdrop) (Ro.of_imp (Ro.of_pick (fun w hw=>Sat.rd hw) pick2) hdrop)
     (fun q hq=>Ro.of_imp (Ro.of_pick (dataV_ro hq) pick1) hdrop)
     (fun q hq=>Ro.of_imp (Ro.of_pick (dataV_ro hq) pick3) hdrop)
     (Nat.le_trans hr3 dCz) (fun q hq=>Nat.le_trans (hr4 q hq) dCz) hG
    have Hback:=uQ hback
    clear hr1 hr2 hr3 hr4 h18 hG hdrop hback
    go_wp2_with fail
    refine hsm.mono ?_
    rintro ee w20 ⟨v,rfl,rfl,h20⟩
    have h21:=Hback.out _ h20
    clear h20 hsm Hback
    go_wp2_with fail
    refine (srol_c dCz dCz h21).mono ?_
    rintro ee w22 ⟨v,rfl,rfl,h22⟩
    clear h21
    go_wp2_with fail
    refine (sdirty_c h22).mono ?_
    rintro ee w23 ⟨v,rfl,rfl,rfl⟩
    obtain ⟨G,hG,_,_,hdrop⟩:=h22.push
    have h23:Sat w0 w22 F:=(hdrop _ hG).sb
    clear h22 hG hdrop
    go_wp2_with fail
    refine (lives17_c HH.out h23).mono ?_
    rintro ee w24 ⟨v,rfl,rfl,h24⟩
    go_wp2_with fail
    go_ret
    exact ⟨_,rfl,rfl,h24⟩
end
end Go.Proofs.YtjbhhbnopnmcnaaGreatDoor
