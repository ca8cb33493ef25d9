import Derived.Test.YtlimfgdbfadohaaGreatDoorJ11
import Derived.Test.YtlimfgdbfadohaaGreatDoorRows
import Derived.Test.YtlimfgdbfadohaaGreatDoorCards
import Derived.Test.YtlimfgdbfadohaaGreatDoorTie
import Derived.ProofKit
import Derived.LaidMore
import Derived.OpenShut
import Derived.ShutString
import Derived.SevenTiedAt
set_option linter.unusedVariables false
set_option maxHeartbeats 128000000
namespace Go.Seg
theorem TT.keeps {T:TT}{b u k:Bs}{cc:Nat} (h:T (Sha.sum b)=none∨∃ c,T (Sha.sum b)=some (b,c)) (hk:T k=some (u,cc)):∃ c',T.put b k=some (u,c'):=by
 unfold TT.put
 by_cases e:k=Sha.sum b
 ·rw [if_pos e]
  subst e
  rcases h with h|⟨c,h⟩
  ·rw [h]at hk;cases hk
  ·rw [h]at hk
   cases hk
   exact ⟨_,rfl⟩
 ·rw [if_neg e];exact ⟨_,hk⟩
end Go.Seg
namespace Go.Proofs.YtlimfgdbfadohaaGreatDoor
open Go Go.Sl Go.Med Go.MapKept Go.RowKit
def TxS (w0:World) (F:List HProp) (ls:List (Value×Frm.Bs)):Prop:=∀ x∈ls,RS w0 F x.1 x.2
def txV (ls:List (Value×Frm.Bs)):List Value:=ls.map (·.1)
def Has (T:Seg.TT) (ls:List (Value×Frm.Bs)):Prop:=∀ x∈ls,x.2.length≤150∧Sha.sum x.2≠Frm.zero32∧∃ cc,T (Sha.sum x.2)=some (x.2,cc)
theorem Has.put {T:Seg.TT}{ls:List (Value×Frm.Bs)} (h:Has T ls){b:Frm.Bs} (hb:T (Sha.sum b)=none∨∃ c,T (Sha.sum b)=some (b,c)):Has (T.put b) ls:=fun x hx=>by
 obtain ⟨h1,h2,cc,h3⟩:=h x hx
 exact ⟨h1,h2,Seg.TT.keeps hb h3⟩
theorem txV_get {ls:List (Value×Frm.Bs)}{i:Nat}{x:Value×Frm.Bs} (h:ls[i]?=some x):(txV ls)[i]?=some x.1:=by unfold txV;rw [List.getElem?_map,h];rfl
section
variable {w0 w:World}{F:List HProp}{z:Int}
set_option maxRecDepth 20000 in
theorem chunks_spoilt_c (z n at_:Int) (y:UInt8) (ts:List (Value×Frm.Bs)){tv:Value} (hl:Ro w0 F (rdsl 1 tv (txV ts))) (hc:capOk tv) (ht:TxS w0 F ts) (hH:Ro w0 F Half) (hSK:Ro w0 F ShaK) (h:Sat w0 w F) :
  Calls Tryz.prog 3 #[.int .i64 z,tv,.int .i64 n,.int .i64 at_,.int .u8 y.toNat] w (Rtn fun v w'=>v = .bool true∧Sat w0 w' F):=by
 have hop:=sto_open z hH h
 obtain ⟨ta,tn,tc,rfl,hc1,hc2⟩:=hc
 have htn:tn=ts.length:=by
  obtain ⟨_,_,_,he,hl',_⟩:=hl w h
  cases he
  unfold txV at hl'
  rw [List.length_map,Nat.mul_one]at hl';exact hl'.symm
 have HL:=uQ hl;have HT:=uQ ht;have HH:=uQ hH;have HSK:=uQ hSK;have Htn:=uQ htn;have Hc:=uQ (And.intro hc1 hc2)
 clear hl ht hH hSK h hc1 hc2 htn
 go_enter Tryz.func3,Tryz.ntmps3
 go_wp2_with fail
 refine hop.mono ?_
 rintro ee w1 ⟨v,rfl,s,m,rfl,hst⟩
 clear hop
 go_wp2_with fail
 have h0:StoS w0 s m 0 0 (fun _=>none) (osl 27 1 (.slice none 0 0) (txV [])::F) w1:=by
  obtain ⟨G,h1,_,_,hG⟩:=hst.push
  exact hG _ _ (Sat.osl_nil.2 h1)
 clear hst
 go_loopg [14,15] 8 (fun g lq iq wr=>∃ (i:Nat) (ls:List (Value×Frm.Bs)) (lv:Value) (T:Seg.TT),g=8 - i∧i≤8∧iq = .int .i64 i∧lv=lq∧ls.length≤i∧TxS w0 F ls∧Has T ls∧StoS w0 s m i i T (osl 27 1 lv (txV ls)::F) wr)
 case atStart=>exact ⟨0,[],_,_,rfl,Nat.zero_le _,rfl,rfl,Nat.zero_le _,(fun x hx=>by cases hx),(fun x hx=>by cases hx),h0⟩
 case round=>
  obtain ⟨i,ls,lv,T,rfl,hi,rfl,rfl,hll,hx1,hx2,hst⟩:=hrel
  clear h0
  by_cases hgo:i<tn∧i<8
  ·as_aux_lemma=>
    obtain ⟨hit,hi8⟩:=hgo
    obtain ⟨P,hS,hP⟩:=hst.one
    have hlt:i<ts.length:=by rw [← Htn.out];exact hit
    obtain ⟨⟨xv,xb⟩,hx⟩:∃ x,ts[i]?=some x:=⟨_,List.getElem?_eq_getElem hlt⟩
    have hrx:RS w0 F xv xb:=HT.out _ (List.mem_of_getElem? hx)
    obtain ⟨bk,off,rfl,hcs⟩:=rdsl_cells (HL.out _ (hS.sb)) (txV_get hx)
    have e1:=hcs _ _ (txV_get hx)
    obtain ⟨xa,xc,rfl,k1,k2⟩:=hrx.len (hS.sb:Sat w0 wr F)
    have hrb:RS w0 F (.slice xa (min xb.length 150) xc) (xb.take 150):=⟨fun w hw=>rdsl_cut4 (hrx.rd w hw),⟨_,_,_,rfl,by omega,k2⟩⟩
    have hcut:=cut_c xa xb.length xc 150 k1 k2 wr
    have hbl:(xb.take 150).length≤150:=by rw [List.length_take];omega
    obtain ⟨nb,hnb⟩:∃ nb,min xb.length 150=nb:=⟨_,rfl⟩
    rw [hnb]at hrb hcut
    generalize xb.take 150=b at *
    have hput:=stput_c (b:=b) oQ oQ hbl (hrb.more sbD) (Ro.os HH.out) (Ro.os HSK.out) hst
    have c1:(i:Int)<(tn:Int):=oQ
    have c1d:decide ((i:Int)<(tn:Int))=true:=decide_eq_true c1
    have c1n:decide (i<tn)=true:=decide_eq_true hit
    have c2:decide ((i:Int)<8)=true:=decide_eq_true oQ
    have hwi:IntKind.i64.wrap ((i:Int)+1)=((i+1:Nat):Int):=by rw [IntWalk.i64_in _ oQ];omega
    have Hi:=uQ hi8;have Hrb:=uQ hrb;have Hll:=uQ hll;have Hx1:=uQ hx1;have Hx2:=uQ hx2;have Hbl:=uQ hbl
    have hsl:=sha_len b
    have Hsz:=uQ (show (bys (Sha.sum b)).toArray.size=32 by rw [List.size_toArray,bys_len,hsl])
    have Hon:=uQ (show (bys (Sha.sum b)).toArray.toList.all (·.oneCell')=true by rw [List.all_eq_true];exact bys_one _)
    clear hit hi8 hlt hx hrx hcs k1 k2 hrb hbl hnb hi hll hx1 hx2 hst hS hP hsl
    go_wp2_with fail
    refine hcut.mono ?_
    rintro ee w2 ⟨v,rfl,rfl,rfl⟩
    clear hcut e1
    go_wp2_with fail
    refine hput.mono ?_
    rintro ee w3 ⟨v,rfl,⟨rfl,hne,hT,hs3⟩|⟨rfl,hs3,_⟩⟩
    ·clear hput c1 c1d c1n c2
     obtain ⟨P,hS,hP⟩:=hs3.one
     have HP:=uQ hP
     have Hh:=uQ (And.intro hne hT)
     clear hs3 hP hne hT
     go_wp2_with (with_reducible apply at_alloc)
     refine ⟨wl_alloc zID hS rfl ?_⟩
     intro b4 w4 h4
     go_wp2_with (with_reducible apply at_store)
     refine ⟨wl_storeA (bys (Sha.sum b)).toArray h4 rFz rFz (Hsz.out.trans rFz) upd0 (by rw [Hsz.out];kernel_rfl) Hon.out ?_⟩
     intro w5 h5
     replace h5:Sat w0 w5 (P::osl 27 1 lv (txV ls)::F):=h5.drop
     clear hS h4
     go_wp2_with (first
      |((with_reducible refine at_build1 ⟨?_⟩);refine wl_build1 (e:=27) (sz:=1) (by':=24) kRz h5 rFz (cs:=#[.slice xa nb xc]) rfl rfl nLz ?_;intro bN wN hN)
      |(with_reducible apply at_append))
     refine ⟨wl_app 27 1 24 kRz hN rFz rFz (xs:=txV ls) pick2 pick0 rFz (Nat.le_refl 1) rFz (by unfold txV;rw [List.length_map];have:=Hll.out;have:=Hi.out;omega) (by show 1≤65536;decide) dCz (ys:=[.slice xa nb xc]) rfl ?_⟩
     intro bA nA cA wA hA
     have hA2:Sat w0 wA (P::osl 27 1 (.slice (some ⟨bA,0,none⟩) nA cA) (txV (ls++[(.slice xa nb xc,b)]))::F):=by
      unfold txV
      rw [List.map_append]
      exact hA.pick1
     clear hN h5 hA
     go_wp2_with fail
     go_roundg (8 - (i+1))
     case measure=>have:=Hi.out;omega
     case rel=>exact ⟨i+1,_,_,T.put b,rfl,Hi.out,by first|rfl|go_num,rfl,by rw [List.length_append];exact Nat.succ_le_succ Hll.out,(fun x hx=>by
       rcases List.mem_append.1 hx with hx|hx
       ·exact Hx1.out x hx
       ·rw [List.mem_singleton.1 hx];exact Hrb.out),(fun x hx=>by
       rcases List.mem_append.1 hx with hx|hx
       ·exact (Hx2.out.put Hh.out.2) x hx
       ·rw [List.mem_singleton.1 hx];exact ⟨Hbl.out,Hh.out.1,_,Seg.put_get T b⟩),HP.out _ _ hA2⟩
    ·clear hput c1 c1d c1n c2
     obtain ⟨P,hS,hP⟩:=hs3.one
     have HP:=uQ hP
     clear hs3 hP
     go_wp2_with (with_reducible apply at_alloc)
     refine ⟨wl_alloc zID hS rfl ?_⟩
     intro b4 w4 h4
     go_wp2_with (with_reducible apply at_store)
     refine ⟨wl_storeA (bys Frm.zero32).toArray h4 rFz rFz rFz upd0 kRz rFz ?_⟩
     intro w5 h5
     replace h5:Sat w0 w5 (P::osl 27 1 lv (txV ls)::F):=h5.drop
     clear hS h4
     go_wp2_with fail
     go_roundg (8 - (i+1))
     case measure=>have:=Hi.out;omega
     case rel=>exact ⟨i+1,ls,_,T,rfl,Hi.out,by first|rfl|go_num,rfl,Nat.le_succ_of_le Hll.out,Hx1.out,Hx2.out,(HP.out _ _ h5).mono (Nat.le_succ _) (Nat.le_succ _)⟩
  have hnm:=rname_c n wr
  obtain ⟨M,X,hM,hMX,hcl⟩:=hst.rot oQ
  have Hrt:=uQ (fun (w':World) (hw:Sat w0 w' (MedRep m M::X))=>rot_c hM oQ hw (Seg.name n) at_ y)
  generalize Seg.name n=nm at *
  have Hcl:=uQ (fun (w':World) (hw:Sat w0 w' (MedRep m (M.rot nm at_ y).1::X))=>(hcl nm at_ y w' hw).mono hi hi)
  have Hll:=uQ (Nat.le_trans hll hi);have Hx1:=uQ hx1;have Hx2:=uQ hx2
  rcases (show ¬ i<tn∨i<tn∧¬ i<8 by omega) with hit|⟨hit,hi8⟩
  focus
   have c1:¬ (i:Int)<(tn:Int):=oQ
   have c1d:decide ((i:Int)<(tn:Int))=false:=decide_eq_false c1
   have c1n:decide (i<tn)=false:=decide_eq_false hit
   clear hi hll hx1 hx2 hst hgo hit hcl hM
   go_wp2_with fail
   clear c1 c1d c1n
  rotate_left
  focus
   have c1:(i:Int)<(tn:Int):=oQ
   have c1d:decide ((i:Int)<(tn:Int))=true:=decide_eq_true c1
   have c1n:decide (i<tn)=true:=decide_eq_true hit
   have c2:decide ((i:Int)<8)=false:=decide_eq_false oQ
   clear hi hll hx1 hx2 hst hgo hit hi8 hcl hM
   go_wp2_with fail
   clear c1 c1d c1n c2
  all_goals
   refine hnm.mono ?_
   rintro ee w2 ⟨v,rfl,rfl,rfl⟩
   clear hnm
   go_wp2_with fail
   refine (Hrt.out _ hMX).mono ?_
   rintro ee w3 ⟨v,rfl,rfl,h3⟩
   have hr3:=Hcl.out _ h3
   clear h3 hMX Hrt Hcl
   go_wp2_with fail
   obtain ⟨la,lc,rfl⟩:∃ la lc,lv = .slice la ls.length lc:=by
    obtain ⟨P,hS,_⟩:=hr3.one
    obtain ⟨a,n,c,e,hl⟩:=(Sat.rd hS.drop).len
    unfold txV at hl
    rw [List.length_map,Nat.mul_one]at hl
    exact ⟨a,c,by rw [e,hl]⟩
   try go_frame
   go_loopg [19] ls.length (fun gg jq wr=>∃ (j n':Nat) (T':Seg.TT) (G:Frm.Bs→Prop),gg=ls.length - j∧j≤ls.length∧jq = .int .i64 j∧n'≤8+j∧Has T' ls∧RotS w0 s m n' n' T' G (osl 27 1 (.slice la ls.length lc) (txV ls)::F) wr)
   case atStart=>exact ⟨0,8,T,_,rfl,Nat.zero_le _,rfl,Nat.le_refl _,Hx2.out,hr3⟩
   case round=>
    obtain ⟨j,n',T',G,rfl,hj,rfl,hn',hT',hst⟩:=hrel
    clear hr3
    by_cases hjl:j<ls.length
    rotate_left
    focus
     as_aux_lemma=>
      have c1:¬ (j:Int)<(ls.length:Int):=oQ
      have c1n:¬ j<ls.length:=hjl
      obtain ⟨P,hS,_⟩:=hst.one
      have hlv:=lives22_c (HH.out) (HSK.out) (hS.sb:Sat w0 _ F)
      clear hj hjl hn' hT' hst hS
      go_wp2_with fail
      refine hlv.mono ?_
      rintro ee w9 ⟨v,rfl,rfl,h9⟩
      clear hlv
      go_wp2_with fail
      go_ret
      exact ⟨_,rfl,rfl,h9⟩
    as_aux_lemma=>
     have hj8:=Hll.out
     obtain ⟨⟨xv,xb⟩,hx⟩:∃ x,ls[j]?=some x:=⟨_,List.getElem?_eq_getElem hjl⟩
     have hrx:RS w0 F xv xb:=Hx1.out _ (List.mem_of_getElem? hx)
     obtain ⟨hb,hz,cc,hcc⟩:=hT' _ (List.mem_of_getElem? hx)
     have hb:xb.length≤150:=hb
     obtain ⟨P,hS,hP⟩:=hst.one
     obtain ⟨bk,off,rfl,_⟩:=rdsl_cells (Sat.rd hS.drop) (txV_get hx)
     have Hcell:=uQ (show ∀ (w':World) (Y:List HProp),Sat w0 w' (osl 27 1 (.slice (some ⟨bk,off,none⟩) ls.length lc) (txV ls)::Y)→w'.cell? ⟨bk,off+j,none⟩=some xv from fun w' Y hw=>by
      obtain ⟨_,_,he,hc⟩:=rdsl_cells (Sat.rd hw) (txV_get hx)
      cases he
      exact hc j _ (txV_get hx))
     have e1:=Hcell.out _ _ hS.drop
     obtain ⟨xa,xc,rfl,k1,k2⟩:=hrx.len (hS.sb:Sat w0 wr F)
     have c1:(j:Int)<(ls.length:Int):=oQ
     have c1n:j<ls.length:=hjl
     have hwj:IntKind.i64.wrap ((j:Int)+1)=((j+1:Nat):Int):=by rw [IntWalk.i64_in _ oQ];omega
     have hsh:=rsha_c (b:=xb) oQ (hrx.more sbD) hS
     have hsl:=sha_len xb
     have Hrx:=uQ hrx;have Hb:=uQ hb;have Hz:=uQ hz;have Hcc:=uQ hcc;have HP:=uQ hP;have HT':=uQ hT';have Hj:=uQ (And.intro hjl (And.intro hn' hj8))
     have Hsz:=uQ (show (bys (Sha.sum xb)).toArray.size=32 by rw [List.size_toArray,bys_len,hsl])
     have Hon:=uQ (show (bys (Sha.sum xb)).toArray.toList.all (·.oneCell')=true by rw [List.all_eq_true];exact bys_one _)
     have hinf:(Tryz.prog.info? 30).map (·.size)=some (bys (Sha.sum xb)).toArray.size:=by rw [Hsz.out];kernel_rfl
     clear hj hjl hx hrx hb hz hcc hst hS hP hT' hn' k1 k2 hsl hj8
     go_wp2_with fail
     refine hsh.mono ?_
     rintro ee w4 ⟨v,rfl,rfl,h4⟩
     clear hsh e1
     go_wp2_with (with_reducible apply at_alloc)
     refine ⟨wl_alloc zID h4 rfl ?_⟩
     intro b20 w5 h5
     clear h4
     go_wp2_with (with_reducible apply at_store)
     refine ⟨wl_storeA (bys (Sha.sum xb)).toArray h5 rFz rFz (Hsz.out.trans rFz) upd0 hinf Hon.out ?_⟩
     intro w6 h6
     clear h5
     have hs6:RotS w0 s m n' n' T' G (pt b20 (.cells (bys (Sha.sum xb)).toArray 30 (0,0))::osl 27 1 (.slice (some ⟨bk,off,none⟩) ls.length lc) (txV ls)::F) w6:=HP.out _ _ h6.pick1
     have hget:=rotget_c (by have:=Hj.out;omega) Hcc.out (Ro.os HH.out) (Ro.os HSK.out) hs6
     clear hs6
     go_wp2_with ((with_reducible refine at_load ⟨?_⟩);refine wl_loadA (cs:=(bys (Sha.sum xb)).toArray) h6 rFz pick0 Tryz.underlying30 rfl hinf ?_)
     refine hget.mono ?_
     rintro ee w7 ⟨v,rfl,⟨ga,gl,gc,rfl,hs7⟩|⟨e,he0,_,rfl,hs7⟩⟩
     focus
      clear hget h6
      obtain ⟨P7,hS7,hP7⟩:=hs7.one
      have e1:=Hcell.out _ _ hS7.drop.drop.drop
      have hsm:=rsame_c (w0:=w0) (F:=P7::bsl (.slice ga gl gc) xb::pt b20 (.cells (bys (Sha.sum xb)).toArray 30 (0,0))::osl 27 1 (.slice (some ⟨bk,off,none⟩) ls.length lc) (txV ls)::F) (av:= .slice ga gl gc) (bv:= .slice xa xb.length xc) xb xb (Ro.of_pick (Ro.bsl _ _) pick1) (Ro.os Hrx.out.rd) hS7 (by have:=Hb.out;omega)
      rw [decide_eq_true rfl]at hsm
      have HP7:=uQ hP7
      clear hs7 hS7 hP7
      go_wp2_with fail
      refine hsm.mono ?_
      rintro ee w8 ⟨v,rfl,rfl,h8'⟩
      have hs8:RotS w0 s m n' n' T' G (pt b20 (.cells (bys (Sha.sum xb)).toArray 30 (0,0))::osl 27 1 (.slice (some ⟨bk,off,none⟩) ls.length lc) (txV ls)::F) w8:=(HP7.out _ _ h8').drop
      clear hsm h8' e1 HP7
      obtain ⟨P8,hS8,hP8⟩:=hs8.one
      have e1:=Hcell.out _ _ hS8.drop.drop
      go_wp2_with fail
      clear e1
     rotate_left
     focus
      clear hget h6
      have z1:¬ e=0:=he0
      have z2:(e==0)=false:=beq_eq_false_iff_ne.2 he0
      have hs8:=hs7
      clear hs7 he0
      obtain ⟨P8,hS8,hP8⟩:=hs8.one
      have e1:=Hcell.out _ _ hS8.drop.drop
      go_wp2_with fail
      clear z1 z2 e1
     all_goals
      have hput:=rotput_c (b:=xb) (by have:=Hj.out;omega) (by have:=Hj.out;omega) Hz.out Hcc.out (Hrx.out.more sbD) (Ro.os HH.out) (Ro.os HSK.out) hs8
      clear hS8 hP8 hs8
      refine hput.mono ?_
      rintro ee w9 ⟨v,rfl,rfl,hs9⟩
      clear hput
      obtain ⟨P9,hS9,hP9⟩:=hs9.one
      have HP9:=uQ hP9
      clear hs9 hP9
      go_wp2_with (with_reducible apply at_alloc)
      refine ⟨wl_alloc zID hS9 rfl ?_⟩
      intro b23 w10 h10
      clear hS9
      go_wp2_with (with_reducible apply at_store)
      refine ⟨wl_storeA (bys (Sha.sum xb)).toArray h10 rFz rFz (Hsz.out.trans rFz) upd0 hinf Hon.out ?_⟩
      intro w11 h11
      replace h11:Sat w0 w11 (P9::pt b20 (.cells (bys (Sha.sum xb)).toArray 30 (0,0))::osl 27 1 (.slice (some ⟨bk,off,none⟩) ls.length lc) (txV ls)::F):=h11.drop
      clear h10
      have hget:=rotget_c (q:=(xb,((T' (Sha.sum xb)).map (·.2)).getD 0+1)) (by have:=Hj.out;omega) (Seg.put_get T' xb) (Ro.os HH.out) (Ro.os HSK.out) (HP9.out _ _ h11)
      go_wp2_with ((with_reducible refine at_load ⟨?_⟩);refine wl_loadA (cs:=(bys (Sha.sum xb)).toArray) h11 rFz pick1 Tryz.underlying30 rfl hinf ?_)
      refine hget.mono ?_
      rintro ee w12 ⟨v,rfl,⟨ga,gl,gc,rfl,hs12⟩|⟨e,_,hG,_,_⟩⟩
      rotate_left
      focus
       first|exact absurd rfl hG|exact (hG trivial).elim
      clear hget h11 HP9
      obtain ⟨P7,hS7,hP7⟩:=hs12.one
      have e1:=Hcell.out _ _ hS7.drop.drop.drop
      have hsm:=rsame_c (w0:=w0) (F:=P7::bsl (.slice ga gl gc) xb::pt b20 (.cells (bys (Sha.sum xb)).toArray 30 (0,0))::osl 27 1 (.slice (some ⟨bk,off,none⟩) ls.length lc) (txV ls)::F) (av:= .slice ga gl gc) (bv:= .slice xa xb.length xc) xb xb (Ro.of_pick (Ro.bsl _ _) pick1) (Ro.os Hrx.out.rd) hS7 (by have:=Hb.out;omega)
      rw [decide_eq_true rfl]at hsm
      have HP7:=uQ hP7
      clear hs12 hS7 hP7
      go_wp2_with fail
      refine hsm.mono ?_
      rintro ee w13 ⟨v,rfl,rfl,h13⟩
      have Hs13:=uQ (((HP7.out _ _ h13).drop).drop)
      clear hsm h13 e1 HP7
      go_wp2_with fail
      go_roundg (ls.length - (j+1))
      case measure=>have:=Hj.out;omega
      case rel=>exact ⟨j+1,n'+1,T'.put xb,_,rfl,Nat.succ_le_of_lt Hj.out.1,by first|rfl|go_num,by have:=Hj.out;omega,HT'.out.put (.inr ⟨cc,Hcc.out⟩),Hs13.out⟩
end
end Go.Proofs.YtlimfgdbfadohaaGreatDoor
namespace Go.Proofs.YtlimfgdbfadohaaGreatDoor
open Go Go.Sl Go.Med Go.ChangeShapes Go.WideShapes Go.RowKit
section
variable {H:Type}{enc:TypeId×Value→H}{W:World}{base:Nat}{spare:Nat→Bool}{held:Bool}
theorem in_txs {fuel:Nat}{v:Value}{x:DataW H×List MemPlace} (h:DataW.trod enc Tryz.prog W base spare held fuel 22 [v]=some x) :
  ∃ ts:List (Value×Frm.Bs),rdsl 1 v (txV ts) W∧capOk v∧∀ d∈ts,rdsl 1 d.1 (bys d.2) W∧capOk d.1:=by
 have e1:Tryz.prog.cellsOf 5=1:=by kernel_rfl
 obtain ⟨elems,h1,h2,h3⟩:=open_sl Tryz.underlying22 (k:=1) kRz oQ h
 obtain ⟨ts,h4,h5⟩:=map_of (f:=fun d:Value×Frm.Bs=>[d.1]) (p:=fun d=>rdsl 1 d.1 (bys d.2) W∧capOk d.1) elems fun cs hcs=>by
  obtain ⟨hl,n,y,h6⟩:=h3 cs hcs
  obtain ⟨u,rfl⟩:=List.length_eq_one_iff.1 hl
  obtain ⟨l,q1,q2⟩:=in_bys Tryz.underlying27 Tryz.underlying5 e1 h6
  exact ⟨(u,l),rfl,q1,q2⟩
 refine ⟨ts,?_,h2,h5⟩
 rw [← h4,← List.flatMap_def]at h1
 have:∀ l:List (Value×Frm.Bs),l.flatMap (fun d=>[d.1])=txV l:=by
  intro l
  induction l with
  |nil=>rfl
  |cons a l ih=>rw [List.flatMap_cons,ih];rfl
 rw [← this]
 exact h1
end
end Go.Proofs.YtlimfgdbfadohaaGreatDoor
namespace Go.Proofs.YtlimfgdbfadohaaGreatDoor.card
open Go.ChangeShapes Go.WideShapes Go.ChangeAt Go.RowKit
open Go Go.Sl Go.Med
theorem gHalf:Tryz.prog.globalNamed "hoard/crc.half" = some 2:=by kernel_rfl
theorem tHalf:((Tryz.prog.globals[2]?).map (·.type))=some 306:=by kernel_rfl
theorem gShaK:Tryz.prog.globalNamed "hoard/sha.k" = some 0:=by kernel_rfl
theorem tShaK:((Tryz.prog.globals[0]?).map (·.type))=some 129:=by kernel_rfl
theorem door_met (os:Os) (args:Array Value):laidMetH Tryz.prog [("hoard/crc.half",Rows.laid_hoard_crc_half),("hoard/sha.k",Rows.laid_hoard_sha_k)] ((World.doorLaid Tryz.prog 400 os).forCall (fun _ _=>0) ⟨#[],args,[]⟩).memory:=
 laidMetH_of_parts3 (fuel:=8) (laidMet_of_run' 8 kRz kRz) kRz kRz
abbrev u32s (L:List Nat):DataW Unit:= .agg (L.map fun (x:Nat)=> .lit (.int .u32 ((x:Nat):Int)))
theorem lHalf:(Rows.laid_hoard_crc_half:DataW Unit)=u32s Frm.half:=by kernel_rfl
theorem lShaK:(Rows.laid_hoard_sha_k:DataW Unit)=u32s Sha.K:=by kernel_rfl
theorem laid_u32 {W:World}{t n base:Nat}{L:List Nat}{cs0:Array Value}{enc:TypeId×Value→Unit}{fuel:Nat}{S:Nat→Bool}{b:Bool}{p0:List MemPlace} (hLn:L.length=n)
  (hu:Tryz.prog.underlying t=some (.array n 78)) (hd0:DataW.trod enc Tryz.prog W base S b fuel t cs0.toList=some (u32s L,p0)):∀ i,i<n→cs0[i]?=some (.int .u32 ((L.getD i 0:Nat):Int)):=by
 obtain ⟨xs,m1,rfl,hx1,hlen,hn3,hel⟩:=DataW.trod_array hu hd0
 have c3:Tryz.prog.cellsOf 78=1:=by kernel_rfl
 simp only [Prod.mk.injEq,DataW.agg.injEq]at hx1
 intro i hi
 have h0:=hel i hi
 have hxi:xs[i]?=some (xs[i]'oQ):=List.getElem?_eq_getElem oQ
 rw [hxi]at h0
 obtain ⟨k,e1,e2,_⟩:=DataW.trod_int Tryz.underlying78 h0
 rw [c3,Nat.mul_one]at e1
 have hc:cs0.toList[i]?=some (.int .u32 k):=by
  have:((cs0.toList.drop i).take 1)[0]?=some (.int .u32 k):=by rw [e1];rfl
  rw [List.getElem?_take,if_pos dCz,List.getElem?_drop]at this
  exact this
 have hL:=congrArg (fun l=>l[i]?) hx1.1
 have hLi:L[i]?=some (L.getD i 0):=by
  rw [List.getD_eq_getElem?_getD,List.getElem?_eq_getElem oQ];rfl
 simp only [List.getElem?_map,hxi,hLi,Option.map_some,e2,Option.some.injEq,DataW.lit.injEq,Lit.int.injEq]at hL
 rw [← Array.getElem?_toList,hc,hL.2]
theorem of_laid {W:World} (h:laidMetH Tryz.prog [("hoard/crc.half",Rows.laid_hoard_crc_half),("hoard/sha.k",Rows.laid_hoard_sha_k)] W):2<W.heap.size∧0<W.heap.size∧Half W∧ShaK W:=by
 rw [MakeChecks.laidMetH_plain _ _ _ kRz]at h
 obtain ⟨ps,⟨g0,t0,cs0,f0,p0,q0,hg0,ht0,hv0,hd0,⟨g1,t1,cs1,f1,p1,q1,hg1,ht1,hv1,hd1,hrest⟩,hps⟩,hrest2⟩:=h
 obtain rfl:=Option.some.inj (gHalf.symm.trans hg0)
 obtain rfl:=Option.some.inj (tHalf.symm.trans ht0)
 obtain rfl:=Option.some.inj (gShaK.symm.trans hg1)
 obtain rfl:=Option.some.inj (tShaK.symm.trans ht1)
 rw [lHalf]at hd0
 rw [lShaK]at hd1
 have hH:Half W:=by
  intro i hi
  have:=World.var?_cell hg0 hv0 i
  rw [this]
  exact laid_u32 dCz Tryz.underlying306 hd0 i hi
 have hK:ShaK W:=by
  intro i hi
  have:=World.var?_cell hg1 hv1 i
  rw [this]
  exact laid_u32 dCz Tryz.underlying129 hd1 i hi
 refine ⟨?_,?_,hH,hK⟩
 ·by_cases hz:2<W.heap.size
  ·exact hz
  ·have h0:=hH 0 dCz
   have e:W.heap[2]?=none:=Array.getElem?_eq_none oQ
   simp [World.cell?,e]at h0
 ·by_cases hz:0<W.heap.size
  ·exact hz
  ·have h0:=hK 0 dCz
   have e:W.heap[0]?=none:=Array.getElem?_eq_none oQ
   simp [World.cell?,e]at h0
end Go.Proofs.YtlimfgdbfadohaaGreatDoor.card
