import Derived.Test.YtihngncbioofnaaGreatDoorJ8
import Derived.Test.YtihngncbioofnaaGreatDoorShelf
set_option linter.unusedVariables false
set_option maxHeartbeats 128000000
namespace Go.Proofs.YtihngncbioofnaaGreatDoor
open Go Go.Sl Go.au Go.MapKept Go.RowKit
section
variable {P:Program}{w0 w:World}{L F:List aH}{ops:Array Oper}{rest:List Oper}{a:Act}{Q:Exit→Act→World→Prop}{K:Act→World→Prop}{E:Prop}{dst:Option Tmp}{t ty:TypeId}{pos:String}{after:Array Edge}{x y s:Operand}{v vy:Value}{l m:Bs}
theorem abC (hs:Sat w0 w (jf v l::F)) (hv:a.eval s=v) (hy:a.eval y=vy) (hx:bG 1 vy (aA m) w) (hm:m≠[]) (hlen:l.length+m.length≤1099511627776) (hK:∀ v' w',Sat w0 w' (jf v' (l++m)::F)→K (a.put dst v') w') :
  Oper.wp Tryz.prog ⟨dst,.call { callee:= .builtin .append,args:=#[s,y],argTypes:=#[39,39] },39,pos,after,none⟩ a w K Q:=by
 obtain ⟨i,hi,hz0,hz1,hz2⟩:=vG
 have h63:(aA l).length+(aA m).length≤maxLen:=by rw [aZ,aZ];unfold maxLen;omega
 have hby:((aA l).length+(aA m).length) * i.bytes≤140737488355328:=by rw [aZ,aZ,hz2];omega
 obtain ⟨v',w',hr,hS⟩:=ajC (P:=Tryz.prog) 39 39 5 i _ Tryz.underlying39 hi hz0 hz1 aj oQ (vk _) (fun e=>hm (by cases m with|nil=>rfl|cons z r=>cases e)) hs hx h63 hby
 rw [← yY]at hS
 unfold Oper.wp execOp
 simp only [resolve,invoke,builtin,ach,acy,abW,agh,aci,acZ,hv,hy,hr]
 exact hK _ _ hS
theorem Vw (hs:Sat w0 w (jf v l::F)) (hv:a.eval s=v) (hy:a.eval y=vy) (hx:bG 1 vy (aA m) w) (hm:m≠[]) (hlen:l.length+m.length≤1099511627776) (hK:∀ v' w',Sat w0 w' (jf v' (l++m)::F)→K (a.put dst v') w') :
  if Region.wanted ⟨dst,.call { callee:= .builtin .append,args:=#[s,y],argTypes:=#[39,39] },39,pos,after,none⟩ (yielded ops a.tmps)=true then
   Oper.wp Tryz.prog ⟨dst,.call { callee:= .builtin .append,args:=#[s,y],argTypes:=#[39,39] },39,pos,after,none⟩ a w K Q else E:=wZ rfl (abC hs hv hy hx hm hlen hK)
theorem Rz (hs:Sat w0 w (jf v l::F)) (hv:a.eval s=v) (hy:a.eval y=vy) (hx:bG 1 vy (aA m) w) (hm:m≠[]) (hlen:l.length+m.length≤1099511627776) (hK:∀ v' w',Sat w0 w' (jf v' (l++m)::F)→wpList Tryz.prog ops Q rest (a.put dst v') w') :
  wpList Tryz.prog ops Q (⟨dst,.call { callee:= .builtin .append,args:=#[s,y],argTypes:=#[39,39] },39,pos,after,none⟩::rest) a w:=
 afZ rfl fun _ hK'=>abC hs hv hy hx hm hlen fun v' w' h=>hK' _ _ (hK v' w' h)
theorem ac6 (h:Sat w0 w (jf v l::F)) (e:l=m):Sat w0 w (jf v m::F):=e ▸ h
theorem ac7 (h:Sat w0 w (jf v l::F)):Sat w0 w (jf v (l++[])::F):=by rw [ab6];exact h
theorem adw (h:Stop (wpList P ops Q (⟨dst,.slice ty x none none none,t,pos,after,none⟩::rest) a w)):wpList P ops Q (⟨dst,.slice ty x none none none,t,pos,after,none⟩::rest) a w:=h.out
theorem alR (hx:a.eval x=v) (hr:∀ w,(Instr.sliceAt ty v none none none).run P w = .ok vy w) (h:wpList P ops Q rest (a.put dst vy) w):wpList P ops Q (⟨dst,.slice ty x none none none,t,pos,after,none⟩::rest) a w:=
 afZ rfl fun _ hK=>by
  unfold Oper.wp execOp
  simp only [hx,anh,ach,hr,abW,acy]
  exact hK _ _ h
theorem Ut (h:Stop (wpList P ops Q (⟨dst,.call { callee:= .builtin .append,args:=#[s,y],argTypes:=#[39,39] },t,pos,after,none⟩::rest) a w)):wpList P ops Q (⟨dst,.call { callee:= .builtin .append,args:=#[s,y],argTypes:=#[39,39] },t,pos,after,none⟩::rest) a w:=h.out
set_option maxRecDepth 20000 in
theorem Vy (sb:ByteArray) (hl:sb.data.toList=l) (hle:l.length≤1073741824) (hs:Sat w0 w F) (hx:a.eval x = .string sb) (hK:∀ v' w',Sat w0 w' (jf v' l::F)→K (a.put dst v') w') :
  if Region.wanted ⟨dst,.convert 9 39 x,t,pos,after,none⟩ (yielded ops a.tmps)=true then Oper.wp Tryz.prog ⟨dst,.convert 9 39 x,t,pos,after,none⟩ a w K Q else E:=by
 refine wZ rfl ?_
 have hr:=Lib.run_convert_string_bytes (P:=Tryz.prog) w 9 39 5 sb Tryz.underlying9 Tryz.underlying39 Tryz.underlying5
 unfold Oper.wp execOp
 simp only [hx,ach,hr,abW,acy]
 exact hK _ _ (adq hs 5 sb l hl hle)
theorem RS.Px (h:Sat w0 w (jf v l::F)):RS w0 (jf v l::F) v l:=by
 refine ⟨fun w hw=>MB hw,?_⟩
 rcases Me h with h|⟨b,n,cap,cs,m,rfl,hl,hn,hc,hcm,htk,hmk,hp⟩
 ·obtain ⟨a,n,c,e,h1,h2,h3⟩:=Ia h
  exact ⟨a,n,c,e,h1,h2⟩
 ·exact ⟨_,n,cap,rfl,hn,hcm⟩
end
section
variable {w0 w:World}{F:List aH}{lv:Value}
theorem uz (r:RV) (h:r.x.key.length=32):(fB r).toArray.size=33:=by rw [abL];exact pK r h
theorem rvG (r:RV) (h:r.x.key.length=32):(fB r).toArray.getD 32 undef=r.nv:=by
 rw [amg,show (fB r).toArray[32]?=some r.nv from QF (x:=r.x) (nv:=r.nv) h];rfl
theorem akb {w:World}{r:RV} (h:bG 1 r.nv (ints r.x.nums) w):(fB r).toArray.toList.all (·.oneCell')=true:=by
 obtain ⟨a,n,c,e,_⟩:=h
 unfold fB
 rw [e]
 rw [acE,ahv,wW];rfl
def Au:RV:=⟨⟨ah.zero32,[]⟩,.slice none 0 0⟩
theorem KI:jy Tryz.prog 221=some (.agg (fB Au).toArray):=by kernel_rfl
theorem agR {w:World}{sv:Value}{l:List Int}{i:Nat}{s:Int} (h:bG 1 sv (ints l) w) (hs:l[i]?=some s):∃ bk off c,sv = .slice (some ⟨bk,off,none⟩) l.length c∧w.cell? ⟨bk,off+i,none⟩=some (.int .i64 s):=by
 obtain ⟨bk,off,cc,hsv,hcell⟩:=jF (f:=fun i:Int=>[Value.int .i64 i]) (k:=1) (l:=l) (fun u _=>rfl) (by rw [show ints l=l.flatMap fun i=>[Value.int .i64 i] from by unfold ints;exact List.map_eq_flatMap]at h;exact h) hs aN
 have f0:=hcell 0 _ rfl
 rw [acP,aj9]at f0
 exact ⟨bk,off,cc,hsv,f0⟩
theorem agT {w:World}{sv:Value}{l:List Int} (h:bG 1 sv (ints l) w):∃ a c,sv = .slice a l.length c:=
 jI (f:=fun i:Int=>[Value.int .i64 i]) (k:=1) (l:=l) (fun u _=>rfl) (by rw [show ints l=l.flatMap fun i=>[Value.int .i64 i] from by unfold ints;exact List.map_eq_flatMap]at h;exact h) aN
set_option maxRecDepth 20000 in
theorem UL (oD:ByteArray) (mg:Bs) (hmb:oD.data.toList=mg) (Xn:mg.length=8) (kd:Bool) (k:Nat) (hk:k≤3) (rs:List RV) (hok:dH.Ok k kd (rs.map (·.x))) (hr:Ro w0 F (bG 33 lv (rs.flatMap fB))) (he:∀ r∈rs,tJ w0 F r) (h:Sat w0 w F) :
  Calls Tryz.prog 132 #[.agg (ou oD kd k),lv] w (aP fun v w'=>∃ bv,v = .tuple #[bv,errno 0]∧Sat w0 w' (jf bv (dH.book Xx.sum mg kd (rs.map (·.x)))::F)):=by
 obtain ⟨la,lc,rfl⟩:=jI (fun r hr=>pK r (he r hr).key) (hr w h) aN
 have hn:rs.length≤65536:=by have:=hok.len;rwa [abj]at this
 have Hr:=uQ hr;have He:=uQ he;have Hn:=uQ hn;have dA:=uQ hok;have Tv:=uQ hmb;have yG:=uQ Xn
 have c1:¬ (65536:Int)<(rs.length:Int):=oQ
 have c2:IntKind.u64.wrap (rs.length:Int)=(rs.length:Int):=by rw [anH];omega
 clear hr he hn hok hmb Xn
 go_enter Tryz.func132,Tryz.ntmps132
 go_wp2_with (with_reducible apply fO)
 refine ⟨fU h ay ay ?_⟩
 intro b2 w2 hS0
 replace hS0:Sat w0 w2 (pt b2 (.cells (ou oD kd k) 213 (0,0))::F):=hS0
 clear h
 go_wp2_with fail
 have hS1:=hS0.drew
 clear hS0
 have hG0:=hS1.cellAt 0 (.string oD) rfl
 refine dU [2,7,8] (fun w'=>w'.cell? ⟨b2,0,none⟩=some (.string oD)) ak ?_
 have hG:=hG0
 refine rP 0 ?_ (y:=bU)
 refine rt 1 (h:=?_)
 clear hG
 refine rP 3 ?_ (y:=bf)
 refine rP 4 ?_ (y:=(vW ay eH))
 refine rP 5 ?_ (y:=(al7 ay eH))
 refine uy 2 6 ay ay ak (fun K hK=>?_) (fun K hK=>?_)
 focus
  refine Vy oD Tv.out (by rw [yG.out];decide) hS1 ay ?_
  intro v16 w3 h3
  refine hK _ _ (.inl rfl) ?_
  clear hK hS1 hG0
  refine cO 6 ay ak (fun K hK=>?_)
  (refine iG ak ay ay ?_)
  refine (BX rs.length (by have:=Hn.out;omega) h3).mono ?_
  rintro ee w4 ⟨v,rfl,h4,_⟩
  refine hK _ _ (.inr (.inl ((h4.drop.drop).cellAt 0 (.string oD) rfl))) ?_
  clear hK h3
  refine cO 7 ay ak (fun K hK=>?_)
  refine Vw (h4.sb:Sat w0 _ (jf v16 mg::dh v (ah.le rs.length 4)::pt b2 (.cells (ou oD kd k) 213 (0,0))::F)) ay ay (Sat.rd h4) (fun e=>by cases e) (by rw [yG.out,ah.kG];decide) ?_
  intro v6 w5 h5
  refine hK _ _ (.inl rfl) ?_
  clear hK h4
  refine rP 8 ?_ (y:=gV)
  refine dO ak ?_
  try simp only [jZ]
  try go_frame
  have hB:Sat w0 w5 (jf v6 (mg++ah.le rs.length 4)::pt b2 (.cells (ou oD kd k) 213 (0,0))::F):=h5.sb
  clear h5
 rotate_left
 focus
  (refine iG ak ay ay ?_)
  refine (BX rs.length (by have:=Hn.out;omega) hS1).mono ?_
  rintro ee w4 ⟨v,rfl,h4,_⟩
  refine hK _ _ (.inr (.inl ((h4.drop).cellAt 0 (.string oD) rfl))) ?_
  clear hK hS1 hG0
  refine cO 2 ay ak (fun K hK=>?_)
  refine Vy oD Tv.out (by rw [yG.out];decide) h4 ay ?_
  intro v16 w3 h3
  refine hK _ _ (.inl rfl) ?_
  clear hK h4
  refine cO 7 ay ak (fun K hK=>?_)
  refine Vw (h3.sb:Sat w0 _ (jf v16 mg::dh v (ah.le rs.length 4)::pt b2 (.cells (ou oD kd k) 213 (0,0))::F)) ay ay (Sat.rd h3.drop) (fun e=>by cases e) (by rw [yG.out,ah.kG];decide) ?_
  intro v6 w5 h5
  refine hK _ _ (.inl rfl) ?_
  clear hK h3
  refine rP 8 ?_ (y:=gV)
  refine dO ak ?_
  try simp only [jZ]
  try go_frame
  have hB:Sat w0 w5 (jf v6 (mg++ah.le rs.length 4)::pt b2 (.cells (ou oD kd k) 213 (0,0))::F):=h5.sb
  clear h5
 all_goals
  as_aux_lemma=>
   have hX0:=uQ hB
   go_wp2_with fail
   go_loopg [6,24] rs.length (fun g bq iq wr=>∃ (i:Nat) (bv:Value),g=rs.length - i∧i≤rs.length∧bv=bq∧iq = .int .i64 i∧Sat w0 wr (jf bv (mg++ah.le rs.length 4++dH.mG kd ((rs.map (·.x)).take i))::pt b2 (.cells (ou oD kd k) 213 (0,0))::F))
   case atStart=>exact ⟨0,_,rfl,acv _,rfl,rfl,by rw [adW,dH.Qe,ab6];exact hB⟩
   case round=>
    obtain ⟨i,bv,rfl,hi,rfl,rfl,hS⟩:=hrel
    clear hB hX0
    by_cases hlt:i<rs.length
    ·as_aux_lemma=>
     have c3:(i:Int)<(rs.length:Int):=oQ
     have hwi:IntKind.i64.wrap ((i:Int)+1)=(i:Int)+1:=abX _ (by have:=Hn.out;omega)
     obtain ⟨r,hx⟩:∃ q,rs[i]?=some q:=⟨_,aad hlt⟩
     have H1:=uQ (He.out r (abn hx))
     have uP:=uQ (dA.out.row r.x (List.mem_map_of_mem (abn hx)))
     have htk:=dH.ajj (kd:=kd) (show (rs.map (·.x))[i]?=some r.x by rw [ab2,hx];rfl)
     have WV:(mg++ah.le rs.length 4++dH.mG kd ((rs.map (·.x)).take i)).length≤3000000:=by
      rw [aac,aac,yG.out,ah.kG,dH.Qd _ (fun q hq=>dA.out.row q (afM hq)),abU,abj]
      have h1:=Hn.out
      have h2:min i rs.length * dH.qy kd k≤65536 * 44:=amP oQ (dH.ZV hk)
      omega
     obtain ⟨bk,off,c',hsv,hcell⟩:=jF (f:=fB) (k:=33) (fun r hr=>pK r (He.out r hr).key) (Hr.out _ hS.drop.drop) hx aN
     cases hsv
     have XG:mg++ah.le rs.length 4++dH.mG kd ((rs.map (·.x)).take (i+1))=(mg++ah.le rs.length 4++dH.mG kd ((rs.map (·.x)).take i))++(if kd then r.x.key else [])++dH.oG r.x.nums:=by
      rw [htk];unfold dH.rowB;simp only [abY]
     generalize mg++ah.le rs.length 4++dH.mG kd ((rs.map (·.x)).take i)=X at *
     have GH:=uQ XG;have HX:=uQ WV;have bY:=uQ hlt
     clear hx htk XG WV hlt hi
     go_wp2_with (first
      |((with_reducible refine bP ⟨?_⟩);refine jk (b:=bk) (o:=off+i * 33) (fB r) aj hcell Tryz.underlying221 rfl (by rw [pK _ H1.out.key];kernel_rfl) ?_)
      |(with_reducible apply fV))
     refine ⟨fH KI hS rfl ?_⟩
     intro b8 w8 h8
     clear hS hcell
     go_wp2_with (with_reducible apply bZ)
     refine ⟨gy (fB r).toArray h8 aj aj (by rw [uz _ H1.out.key];rfl) dB (by rw [uz _ H1.out.key];kernel_rfl) (akb (H1.out.rd _ h8.drop.drop.drop)) ?_⟩
     intro w9 h9
     clear h8
     have hgd:(fB r).toArray.getD 32 undef=r.nv:=rvG _ H1.out.key
     obtain ⟨kb,hkb⟩:∃ kb,Hid (kd=kb):=⟨_,uQ rfl⟩
     cases kd
     focus
      have hQ:=ac7 (h9.pick aX)
      have gG:=uQ (show mg++ah.le rs.length 4++dH.mG false ((rs.map (·.x)).take (i+1))=X++[]++dH.oG r.x.nums from GH.out)
      have HY:=uQ (show (X++([]:Bs)).length≤3000100 by rw [ab6];have:=HX.out;omega)
      generalize X++([]:Bs)=Y at *
      clear h9 GH HX
     rotate_left
     focus
      have hrd:bG 1 (.slice (some ⟨b8,0,none⟩) 32 32) (aA r.x.key) w9:=⟨_,_,_,rfl,by rw [aZ,H1.out.key],fun j z hj=>⟨_,rfl,by rw [yS,acp];exact h9.cellP aV j (QE hj)⟩⟩
      have gG:=uQ (show mg++ah.le rs.length 4++dH.mG true ((rs.map (·.x)).take (i+1))=X++r.x.key++dH.oG r.x.nums from GH.out)
      have HY:=uQ (show (X++r.x.key).length≤3000100 by rw [aac,H1.out.key];have:=HX.out;omega)
      have hsl:∀ w,(Instr.sliceAt 50 (.pointer (some ⟨b8,0,none⟩)) none none none).run Tryz.prog w = .ok (.slice (some ⟨b8,0,none⟩) 32 32) w:=fun w=>by kernel_rfl
      go_wp2_with (first
       |((with_reducible refine bP ⟨?_⟩);refine gq h9 aj (aS aX) bJ ay ak ?_)
       |(with_reducible apply adw))
      refine ⟨alR aj hsl ?_⟩
      refine Rz (m:=r.x.key) (h9.pick aX) aj aj hrd (fun e=>by have:=H1.out.key;rw [e]at this;cases this) (by rw [H1.out.key];have:=HX.out;omega) ?_
      intro v33 w10 hQ
      generalize X++r.x.key=Y at *
      clear h9 GH HX hrd
     all_goals
      obtain ⟨na,nc,IX⟩:=agT (H1.out.rd _ (hQ.drop.drop.drop))
      rw [IX]at hgd
      have Hnv:=uQ IX
      go_wp2_with ((with_reducible refine bP ⟨?_⟩);first|refine gq (o:=32) hQ aj aX (by rw [uz _ H1.out.key];decide) hgd ak ?_|refine gq hQ aj (aS aX) bJ ay ak ?_)
      clear hgd
      rw [hkb.out]at hQ
      go_loopg [6,37] r.x.nums.length (fun g bq jq wr=>∃ (j:Nat) (cv:Value),g=r.x.nums.length - j∧j≤r.x.nums.length∧cv=bq∧jq = .int .i64 j∧Sat w0 wr (jf cv (Y++dH.oG (r.x.nums.take j))::pt b8 (.cells (fB r).toArray 221 (0,0))::pt b2 (.cells (ou oD kb k) 213 (0,0))::F))
      case atStart=>exact ⟨0,_,rfl,acv _,rfl,rfl,by rw [adW,dH.Y1,ab6];exact hQ⟩
      case round=>
       obtain ⟨j,cv,rfl,hj,rfl,rfl,hSj⟩:=hrel
       clear hQ
       by_cases hjl:j<r.x.nums.length
       ·obtain ⟨n,hn⟩:∃ n,r.x.nums[j]?=some n:=⟨_,aad hjl⟩
        have hnb:=uP.out.num n (abn hn)
        obtain ⟨bk2,of2,cc2,e2,hcj⟩:=agR (H1.out.rd _ (hSj.drop.drop.drop)) hn
        rw [Hnv.out]at e2
        cases e2
        have Hnk:=uQ (dH.ah0 hn)
        obtain ⟨x,rfl⟩:∃ x:Nat,n=(x:Int):=⟨n.toNat,by omega⟩
        have d1:decide ((x:Int)<0)=false:=by rw [adA];omega
        have d2:decide ((4294967295:Int)<(x:Int))=false:=by rw [adA];omega
        have d3:¬ (x:Int)<0:=oQ
        have d4:¬ (4294967295:Int)<(x:Int):=oQ
        have d5:IntKind.u64.wrap (x:Int)=(x:Int):=by rw [anH];omega
        have c4:(j:Int)<(r.x.nums.length:Int):=oQ
        have EH:IntKind.i64.wrap ((j:Int)+1)=(j:Int)+1:=abX _ (by have:=uP.out.len;omega)
        have TJ:=uQ (fun (w':World) (R:List aH) (hw:Sat w0 w' R)=>BX x oQ hw)
        have hyl:(Y++dH.oG (r.x.nums.take j)).length≤4000000:=by rw [aac,dH.Y0,abU];have:=uP.out.len;have:=HY.out;omega
        have GI:=uQ hyl;have jT:=uQ hjl
        clear hn hnb hjl hj hyl
        go_wp2_with fail
        refine (TJ.out _ _ hSj).mono ?_
        rintro ee w5 ⟨v,rfl,h5,_⟩
        clear TJ hcj hSj
        go_wp2_with (with_reducible apply Ut)
        refine ⟨Rz (m:=ah.le x 4) (h5.pick aX) aj aj (Sat.rd h5) (fun e=>by cases e) (by rw [ah.kG];have:=GI.out;omega) ?_⟩
        intro v6 w6 h6
        go_wp2_with fail
        go_roundg (r.x.nums.length - (j+1))
        case measure=>have:=jT.out;omega
        case rel=>exact ⟨j+1,_,rfl,acO jT.out,rfl,by first|rfl|go_num,by rw [Hnk.out,← abY];exact h6.sb⟩
       ·have c4:¬ (j:Int)<(r.x.nums.length:Int):=by omega
        obtain rfl:j=r.x.nums.length:=by omega
        rw [acK]at hSj
        clear hj hjl
        go_wp2_with fail
        go_roundg (rs.length - (i+1))
        case measure=>have:=bY.out;omega
        case rel=>exact ⟨i+1,_,rfl,acO bY.out,rfl,by first|rfl|go_num,by rw [gG.out];rw [← hkb.out]at hSj;exact hSj.sb⟩
    ·as_aux_lemma=>
     have c3:¬ (i:Int)<(rs.length:Int):=oQ
     obtain rfl:i=rs.length:=by omega
     have eb:mg++ah.le rs.length 4++dH.mG kd ((rs.map (·.x)).take rs.length)=dH.body mg kd (rs.map (·.x)):=by
      unfold dH.body
      rw [acs (by rw [abj];exact abm _),abj]
     have hSb:=ac6 hS eb
     have mM:=uQ (dH.adP (mg:=mg) yG.out hk dA.out)
     have ql:=uQ (show dH.body mg kd (rs.map (·.x))≠[] from fun e=>by
      have:=dH.MQ (mg:=mg) (kd:=kd) yG.out dA.out.row
      rw [e]at this
      simp only [adU]at this
      omega)
     have tZ:=ajc oD kd k rs (by have:=Hn.out;omega) (Ro.os Hr.out) (fun r hr=>(He.out r hr).sub pO) hSb
     clear hS hi hlt eb
     go_wp2_with ((with_reducible refine bP ⟨?_⟩);refine iU hSb aj aX Tryz.underlying213 rfl ak ?_)
     refine tZ.mono ?_
     rintro ee w5 ⟨v,rfl,t,rfl,ht,h5⟩
     obtain rfl:t=true:=ht.2 dA.out.rise
     clear tZ hSb ht
     go_wp2_with fail
     have hxs:=al3 ql.out (by have:=mM.out;omega) (RS.Px h5) h5
     obtain ⟨S,HS⟩:∃ S,Hid (Xx.sum (dH.body mg kd (rs.map (·.x)))=S):=⟨_,uQ rfl⟩
     have HSl:=uQ (show S<Xx.W by rw [← HS.out];exact Xx.sum_lt _)
     rw [HS.out]at hxs
     refine hxs.mono ?_
     rintro ee w6 ⟨v,rfl,rfl,h6⟩
     clear h5 hxs
     go_wp2_with fail
     refine (aiF S HSl.out h6).mono ?_
     rintro ee w7 ⟨v,rfl,h7,_⟩
     clear h6
     go_wp2_with (with_reducible apply Ut)
     refine ⟨Rz (m:=ah.le S 8) (h7.pick aX) aj aj (Sat.rd h7) (fun e=>by have k:=acX List.length e;rw [ah.kG]at k;cases k) (by rw [ah.kG];have:=mM.out;omega) ?_⟩
     intro v8 w8 h8
     have h9:Sat w0 w8 (jf v8 (dH.book Xx.sum mg kd (rs.map (·.x)))::F):=by unfold dH.book;rw [HS.out];exact h8.sb
     clear h7 h8
     go_wp2_with fail
     go_ret2
     exact ⟨_,rfl,v8,rfl,h9⟩
end
section
variable {P:Program}{w w':World}{ops:Array Oper}{rest:List Oper}{a:Act}{Q:Exit→Act→World→Prop}{dst:Option Tmp}{t ty:TypeId}{pos:String}{after:Array Edge}{n:Nat}{xs:Array (Nat×Operand)}{v:Value}
theorem adr (h:Stop (wpList P ops Q (⟨dst,.buildSlice ty n xs,t,pos,after,none⟩::rest) a w)):wpList P ops Q (⟨dst,.buildSlice ty n xs,t,pos,after,none⟩::rest) a w:=h.out
theorem alN (parts':Array (Nat×Value)) (he:xs.map (fun p=>(p.1,a.eval p.2))=parts') (hr:(Instr.buildSlice ty n parts').run P w = .ok v w') (h:wpList P ops Q rest (a.put dst v) w'):wpList P ops Q (⟨dst,.buildSlice ty n xs,t,pos,after,none⟩::rest) a w:=
 afZ rfl fun _ hK=>by
  unfold Oper.wp execOp
  simp only [he,ach,hr,abW,acy]
  exact hK _ _ h
end
section
variable {w0 w:World}{F:List aH}
set_option maxRecDepth 20000 in
theorem alB (a b c:Int) (h:Sat w0 w F):Calls Tryz.prog 138 #[.agg #[.int .i64 a,.int .i64 b,.int .i64 c]] w
  (aP fun v w'=>∃ q,v = .agg (fB ⟨⟨ah.zero32,[a,b,c]⟩,.slice (some ⟨q,0,none⟩) 3 3⟩).toArray∧Sat w0 w' (pt q (.cells #[.int .i64 a,.int .i64 b,.int .i64 c] 3 (0,0))::F)):=by
 have hbs:∀ w,(Instr.buildSlice 29 3 #[(0,.int .i64 a),(1,.int .i64 b),(2,.int .i64 c)]).run Tryz.prog w = .ok (.slice (some ⟨w.heap.size,0,none⟩) 3 3) (w.alloc (.cells #[.int .i64 a,.int .i64 b,.int .i64 c] 3)):=fun w=>by kernel_rfl
 have hrow:∀ w q,(Instr.build 221 #[(1,.slice (some ⟨q,0,none⟩) 3 3)]).run Tryz.prog w = .ok (.agg (fB ⟨⟨ah.zero32,[a,b,c]⟩,.slice (some ⟨q,0,none⟩) 3 3⟩).toArray) w:=fun w q=>by kernel_rfl
 go_enter Tryz.func138,Tryz.ntmps138
 go_wp2_with (with_reducible apply fO)
 refine ⟨fU h aj aj ?_⟩
 intro b1 w1 h1
 go_wp2_with (with_reducible apply fV)
 refine ⟨fH KI h1 rfl ?_⟩
 intro b2 w2 h2
 have hS:=h2.alloc (.cells #[.int .i64 a,.int .i64 b,.int .i64 c] 3)
 generalize hq:w2.heap.size=q at *
 have hq2:=hq
 go_wp2_with (first
  |((with_reducible refine bP ⟨?_⟩);refine gq h2 aj aX bJ ay ak ?_)
  |((with_reducible refine bZ ⟨?_⟩);refine gy (fB ⟨⟨ah.zero32,[a,b,c]⟩,.slice (some ⟨q,0,none⟩) 3 3⟩).toArray hS aj aj aj QZ ak aj ?_;intro w9 h9))
 refine ⟨rfl,_,Cc rfl h9 aj bF Tryz.underlying221 rfl ak,?_⟩
 exact ⟨_,rfl,q,rfl,h9.sb⟩
theorem aiq:sF Tryz.prog 221=some [(0,32),(32,1)]:=by kernel_rfl
theorem ajW (k:ah.Bs) (hk:k.length=32) (x:dH.Rw) (hx:x.key=k) (nv:Value) (q:Nat) (IX:nv = .slice (some ⟨q,0,none⟩) 3 3) (w:World):(Instr.build 221 #[(0,.agg (aA k).toArray),(1,nv)]).run Tryz.prog w = .ok (.agg (fB ⟨x,nv⟩).toArray) w:=by
 subst IX;subst hx
 have h:=anu (P:=Tryz.prog) [(0,.agg (aA x.key).toArray),(1,.slice (some ⟨q,0,none⟩) 3 3)] aiq KI (by
  intro p hp
  have hzz:(Value.agg (fB Au).toArray).cells.size=33:=by rfl
  rw [hzz]
  rcases ab5.1 hp with rfl|hp
  ·refine ⟨0,?_,?_⟩
   ·show some (0,32)=some (0,(aA x.key).toArray.size);rw [abL,aZ,hk]
   ·show 0+(aA x.key).toArray.size≤33
    rw [abL,aZ,hk];decide
  ·rw [ab7.1 hp]
   exact ⟨32,rfl,by show 32+1≤33;omega⟩) w
 refine h.trans ?_
 have hz:ah.zero32.length=32:=rfl
 have hzl:(fB Au).length=33:=pK _ hz
 have e:eP (eP (fB Au).toArray 0 (aA x.key)) 32 [.slice (some ⟨q,0,none⟩) 3 3]=(fB ⟨x,.slice (some ⟨q,0,none⟩) 3 3⟩).toArray:=by
  apply sH
  rw [zT _ _ _ (by rw [kE,abL,hzl];exact abm 33),zT _ _ _ (by rw [abL,hzl,aZ,hk];decide),acE]
  have e1:jX (fB Au) 0 (aA x.key)=aA x.key++[.slice none 0 0]:=by
   unfold fB Au
   rw [E5 _ _ _ _ (by rw [aZ,aZ,hk,hz];decide),BZ (by rw [aZ,aZ,hk,hz])]
  have h0:=zQ (aA x.key) [.slice none 0 0] [.slice (some ⟨q,0,none⟩) 3 3] 0
  rw [aZ,hk,BZ (xs:=[Value.slice none 0 0]) (vs:=[Value.slice (some ⟨q,0,none⟩) 3 3]) aj]at h0
  rw [e1]
  exact h0
 exact acX (fun x=>Result.ok (Value.agg x) w) e
set_option maxRecDepth 20000 in
theorem agC (k:ah.Bs) (hk:k.length=32) (a b c:Int) (h:Sat w0 w F):Calls Tryz.prog 134 #[.agg (aA k++[Value.int .i64 a,Value.int .i64 b,Value.int .i64 c]).toArray] w
  (aP fun v w'=>∃ q,v = .agg (fB ⟨⟨k,[a,b,c]⟩,.slice (some ⟨q,0,none⟩) 3 3⟩).toArray∧Sat w0 w' (pt q (.cells #[.int .i64 a,.int .i64 b,.int .i64 c] 3 (0,0))::F)):=by
 have hbs:∀ w,(Instr.buildSlice 29 3 #[(0,.int .i64 a),(1,.int .i64 b),(2,.int .i64 c)]).run Tryz.prog w = .ok (.slice (some ⟨w.heap.size,0,none⟩) 3 3) (w.alloc (.cells #[.int .i64 a,.int .i64 b,.int .i64 c] 3)):=fun w=>by kernel_rfl
 have hrow:∀ w q,(Instr.build 221 #[(0,.agg (aA k).toArray),(1,.slice (some ⟨q,0,none⟩) 3 3)]).run Tryz.prog w = .ok (.agg (fB ⟨⟨k,[a,b,c]⟩,.slice (some ⟨q,0,none⟩) 3 3⟩).toArray) w:=fun w q=>ajW k hk ⟨k,[a,b,c]⟩ rfl _ q rfl w
 have hsz:(aA k++[Value.int .i64 a,Value.int .i64 b,Value.int .i64 c]).toArray.size=35:=by rw [abL,aac,aZ,hk];rfl
 have hat:∀ j v,([Value.int .i64 a,Value.int .i64 b,Value.int .i64 c]:List Value)[j]?=some v→(aA k++[Value.int .i64 a,Value.int .i64 b,Value.int .i64 c]).toArray.getD (32+j) undef=v:=fun j v hj=>by
  rw [amg,abT,acJ (by rw [aZ,hk];omega),aZ,hk,Nat.add_sub_cancel_left,hj];rfl
 have hki:(Tryz.prog.info? 50).map (·.size)=some (aA k).length:=by rw [aZ,hk];kernel_rfl
 go_enter Tryz.func134,Tryz.ntmps134
 go_wp2_with (with_reducible apply fO)
 refine ⟨fU h aj aj ?_⟩
 intro b1 w1 h1
 go_wp2_with (with_reducible apply fV)
 refine ⟨fH KI h1 rfl ?_⟩
 intro b2 w2 h2
 replace h2:Sat w0 w2 (pt b2 (.cells (fB Au).toArray 221 (0,0))::pt b1 (.cells (aA k++[Value.int .i64 a,Value.int .i64 b,Value.int .i64 c]).toArray 219 (0,0))::F):=h2
 have hS:=h2.alloc (.cells #[.int .i64 a,.int .i64 b,.int .i64 c] 3)
 have hrs:∀ q,(fB ⟨⟨k,[a,b,c]⟩,.slice (some ⟨q,0,none⟩) 3 3⟩).toArray.size=33:=fun q=>uz _ hk
 go_wp2_with (first
  |((with_reducible refine bP ⟨?_⟩);first
   |refine CY (o:=0) (aA k) h2 aj aX (fun j v hj=>by rw [acp,abT,acH (abl.1 hj).1];exact hj) Tryz.underlying50 rfl hki ?_
   |refine gq (o:=32) h2 aj aX (by show 33≤(aA k++_).toArray.size;rw [hsz];decide) (hat 0 _ rfl) ak ?_
   |refine gq (o:=33) h2 aj aX (by show 34≤(aA k++_).toArray.size;rw [hsz];decide) (hat 1 _ rfl) ak ?_
   |refine gq (o:=34) h2 aj aX (by show 35≤(aA k++_).toArray.size;rw [hsz];decide) (hat 2 _ rfl) ak ?_)
  |(with_reducible apply adr))
 refine ⟨alN #[(0,.int .i64 a),(1,.int .i64 b),(2,.int .i64 c)] (by simp only [agh,aci,acZ];rfl) (hbs _) ?_⟩
 generalize hq:w2.heap.size=q at *
 go_wp2_with (with_reducible apply adt)
 refine ⟨alO #[(0,.agg (aA k).toArray),(1,.slice (some ⟨q,0,none⟩) 3 3)] (by simp only [agh,aci,acZ];rfl) (fun w=>hrow w q) ?_⟩
 go_wp2_with (with_reducible apply bZ)
 refine ⟨gy (fB ⟨⟨k,[a,b,c]⟩,.slice (some ⟨q,0,none⟩) 3 3⟩).toArray hS aj aj (by rw [hrs q];rfl) QZ (by rw [hrs q];kernel_rfl) (by unfold fB;rw [acE,ahv,wW];rfl) ?_⟩
 intro w9 h9
 go_wp2_with fail
 refine ⟨rfl,_,Cc rfl h9 aj bF Tryz.underlying221 rfl (by rw [hrs q];kernel_rfl),?_⟩
 exact ⟨_,rfl,_,rfl,h9.sb⟩
end
end Go.Proofs.YtihngncbioofnaaGreatDoor
namespace Go.Rep
def lC (u:Use):dH.Rw:=⟨ah.zero32,[u.seg,u.size,u.live]⟩
def lg (p:ah.Bs×Seg.aU):dH.Rw:=⟨p.1,[p.2.seg,p.2.at_,p.2.size]⟩
end Go.Rep
namespace Go.Proofs.YtihngncbioofnaaGreatDoor
open Go Go.Sl Go.au Go.MapKept Go.RowKit
def qQ (rs:List RV):aH:=stars (rs.map fun r=>aB 3 1 r.nv (ints r.x.nums))
section
variable {w0 w:World}{F:List aH}{lv:Value}{rs:List RV}{r:RV}
theorem ah1 (rs:List RV) (r:RV):qQ (rs++[r])=star (aB 3 1 r.nv (ints r.x.nums)) (qQ rs):=by
 unfold qQ
 rw [ab8,qA,aci,acZ,FD,FC]
theorem Y2 (h:Sat w0 w (aB 3 1 r.nv (ints r.x.nums)::qQ rs::F)):Sat w0 w (qQ (rs++[r])::F):=by
 rw [ah1];exact Sat.star.2 h
theorem Y3 (hr:r∈rs) (hk:r.x.key.length=32) (hn:0<r.x.nums.length):tJ w0 (qQ rs::F) r:=by
 refine ⟨hk,fun w hw=>?_,hn⟩
 obtain ⟨G,hG⟩:=JR (rs.map fun r=>aB 3 1 r.nv (ints r.x.nums)) _ (List.mem_map_of_mem hr)
 have h1:Sat w0 w (star (aB 3 1 r.nv (ints r.x.nums)) G::F):=by rw [← hG];exact hw
 exact Sat.rd (Sat.star.1 h1)
theorem YX {q:Nat}{a b c:Int} (h:Sat w0 w (pt q (.cells #[.int .i64 a,.int .i64 b,.int .i64 c] 3 (0,0))::F)):Sat w0 w (aB 3 1 (.slice (some ⟨q,0,none⟩) 3 3) (ints [a,b,c])::F):=
 Sat.kR h rfl (abm _) (abm _) aN rfl
theorem aar {k:ah.Bs}{ns:List Int}{a:Option Addr}{n c:Nat}:(fB ⟨⟨k,ns⟩,.slice a n c⟩).toArray.toList.all (·.oneCell')=true:=by
 rw [acE];unfold fB;rw [ahv,wW];rfl
set_option maxRecDepth 20000 in
theorem aix (us:List Rep.Use) (hl:us.length≤65536) (hr:Ro w0 F (bG 3 lv (us.flatMap bH))) (h:Sat w0 w F) :
  Calls Tryz.prog 137 #[lv,.func (.func 138) #[] #[]] w (aP fun v w'=>∃ rs:List RV,rs.map (·.x)=us.map Rep.lC∧Sat w0 w' (aB 221 33 v (rs.flatMap fB)::qQ rs::F)):=by
 obtain ⟨la,lc,rfl⟩:=jI (fun u _=>uG u) (hr w h) aN
 have Hr:=uQ hr;have Hl:=uQ hl
 clear hr hl
 go_enter Tryz.func137,Tryz.ntmps137
 go_wp2_with fail
 go_loopg [5,10] us.length (fun g ov iq wr=>∃ (i:Nat) (rs:List RV) (o2:Value),g=us.length - i∧i≤us.length∧o2=ov∧iq = .int .i64 i∧(rs.map (·.x)=(us.take i).map Rep.lC∧∀ r∈rs,r.x.key.length=32)∧Sat w0 wr (aB 221 33 o2 (rs.flatMap fB)::qQ rs::F))
 case atStart=>exact ⟨0,[],_,rfl,acv _,rfl,rfl,⟨rfl,fun r hr=>by cases hr⟩,Sat.iL.2 (Sat.emp.2 h)⟩
 case round=>
  obtain ⟨i,rs,ov,rfl,hi,rfl,rfl,hrs,hS⟩:=hrel
  clear h
  by_cases hlt:i<us.length
  ·as_aux_lemma=>
    have c3:(i:Int)<(us.length:Int):=oQ
    have hwi:IntKind.i64.wrap ((i:Int)+1)=(i:Int)+1:=abX _ (by have:=Hl.out;omega)
    obtain ⟨u,hx⟩:∃ u,us[i]?=some u:=⟨_,aad hlt⟩
    obtain ⟨bk,off,c',hsv,hcell⟩:=jF (f:=bH) (k:=3) (fun u _=>uG u) (Hr.out _ hS.drop.drop) hx aN
    cases hsv
    have bY:=uQ hlt;have rF:=uQ hrs
    have gG:=uQ (show us.take (i+1)=us.take i++[u] from dH.mJ hx)
    have jD:=uQ (show (rs.flatMap fB).length≤2147483648 from by
     rw [jd fun r hr=>pK r (hrs.2 r hr)]
     have:=acX List.length hrs.1
     rw [abj,abj,abU]at this
     have:=Hl.out
     omega)
    clear hx hlt hi hrs
    go_wp2_with (first
     |((with_reducible refine bP ⟨?_⟩);refine jk (b:=bk) (o:=off+i * 3) (bH u) aj hcell Tryz.underlying45 rfl ak ?_)
     |(with_reducible apply fV))
    refine ⟨fH abP hS rfl ?_⟩
    intro b8 w8 h8
    clear hS hcell
    go_wp2_with (with_reducible apply bZ)
    refine ⟨gy (bH u).toArray h8 aj aj aj dB ak aj ?_⟩
    intro w9 h9
    clear h8
    go_wp2_with ((with_reducible refine bP ⟨?_⟩);refine iU h9 aj aV Tryz.underlying45 rfl ak ?_)
    refine (alB u.seg u.size u.live h9).mono ?_
    rintro ee w10 ⟨v,rfl,q,rfl,h10⟩
    clear h9
    have h11:=YX h10
    clear h10
    go_wp2_with (first
     |((with_reducible refine qJ ⟨?_⟩);refine qB (e:=221) (sz:=33) (fA:=56) (cs:=(fB ⟨Rep.lC u,.slice (some ⟨q,0,none⟩) 3 3⟩).toArray) ak h11 aj rfl (uz ⟨Rep.lC u,.slice (some ⟨q,0,none⟩) 3 3⟩ rfl) bJ ?_;intro bN wN hN)
     |(with_reducible apply nG))
    refine ⟨qY (cs:=(fB ⟨Rep.lC u,.slice (some ⟨q,0,none⟩) 3 3⟩).toArray) 221 33 56 ak hN aj aj (aS (aS (aS aV))) aV (uz ⟨Rep.lC u,.slice (some ⟨q,0,none⟩) 3 3⟩ rfl) bJ aar jD.out (by rw [uz ⟨Rep.lC u,.slice (some ⟨q,0,none⟩) 3 3⟩ rfl];decide) bJ rfl ?_⟩
    intro b' n' c2 mZ jQ
    go_wp2_with fail
    go_roundg (us.length - (i+1))
    case measure=>have:=bY.out;omega
    case rel=>
     refine ⟨i+1,rs++[⟨Rep.lC u,.slice (some ⟨q,0,none⟩) 3 3⟩],_,rfl,acO bY.out,rfl,by first|rfl|go_num,⟨?_,?_⟩,?_⟩
     ·rw [ab8,gG.out,ab8,rF.out.1];rfl
     ·intro r hr
      rcases acr.1 hr with hr|hr
      ·exact rF.out.2 r hr
      ·rw [ab7.1 hr];exact rfl
     ·rw [ac4,acG,am9,ab6]
      have h15:Sat w0 mZ (aB 3 1 (.slice (some ⟨q,0,none⟩) 3 3) (ints (Rep.lC u).nums)::qQ rs::aB 221 33 (.slice (some ⟨b',0,none⟩) n' c2) (rs.flatMap fB++fB ⟨Rep.lC u,.slice (some ⟨q,0,none⟩) 3 3⟩)::F):=jQ.sb
      exact (Y2 (r:=⟨Rep.lC u,.slice (some ⟨q,0,none⟩) 3 3⟩) h15).sb
  ·have c3:¬ (i:Int)<(us.length:Int):=by omega
   have hi2:i=us.length:=oQ
   subst hi2
   rw [acK]at hrs
   clear hi hlt
   go_wp2_with fail
   go_ret
   exact ⟨_,rfl,rs,hrs.1,hS⟩
set_option maxRecDepth 20000 in
theorem aiw (us:List (ah.Bs×Seg.aU)) (hl:us.length≤65536) (hk:∀ q∈us,q.1.length=32) (hr:Ro w0 F (bG 35 lv (us.flatMap jW))) (h:Sat w0 w F) :
  Calls Tryz.prog 133 #[lv,.func (.func 134) #[] #[]] w (aP fun v w'=>∃ rs:List RV,rs.map (·.x)=us.map Rep.lg∧Sat w0 w' (aB 221 33 v (rs.flatMap fB)::qQ rs::F)):=by
 have Hk:=uQ hk
 clear hk
 obtain ⟨la,lc,rfl⟩:=jI (fun u hu=>qO u (Hk.out u hu)) (hr w h) aN
 have Hr:=uQ hr;have Hl:=uQ hl
 clear hr hl
 go_enter Tryz.func133,Tryz.ntmps133
 go_wp2_with fail
 go_loopg [5,10] us.length (fun g ov iq wr=>∃ (i:Nat) (rs:List RV) (o2:Value),g=us.length - i∧i≤us.length∧o2=ov∧iq = .int .i64 i∧(rs.map (·.x)=(us.take i).map Rep.lg∧∀ r∈rs,r.x.key.length=32)∧Sat w0 wr (aB 221 33 o2 (rs.flatMap fB)::qQ rs::F))
 case atStart=>exact ⟨0,[],_,rfl,acv _,rfl,rfl,⟨rfl,fun r hr=>by cases hr⟩,Sat.iL.2 (Sat.emp.2 h)⟩
 case round=>
  obtain ⟨i,rs,ov,rfl,hi,rfl,rfl,hrs,hS⟩:=hrel
  clear h
  by_cases hlt:i<us.length
  ·as_aux_lemma=>
    have c3:(i:Int)<(us.length:Int):=oQ
    have hwi:IntKind.i64.wrap ((i:Int)+1)=(i:Int)+1:=abX _ (by have:=Hl.out;omega)
    obtain ⟨u,hx⟩:∃ u,us[i]?=some u:=⟨_,aad hlt⟩
    obtain ⟨bk,off,c',hsv,hcell⟩:=jF (f:=jW) (k:=35) (fun u hu=>qO u (Hk.out u hu)) (Hr.out _ hS.drop.drop) hx aN
    cases hsv
    have bY:=uQ hlt;have rF:=uQ hrs
    have gG:=uQ (show us.take (i+1)=us.take i++[u] from dH.mJ hx)
    have jD:=uQ (show (rs.flatMap fB).length≤2147483648 from by
     rw [jd fun r hr=>pK r (hrs.2 r hr)]
     have:=acX List.length hrs.1
     rw [abj,abj,abU]at this
     have:=Hl.out
     omega)
    have uO:=uQ (Hk.out u (abn hx))
    clear hx hlt hi hrs
    go_wp2_with (first
     |((with_reducible refine bP ⟨?_⟩);refine jk (b:=bk) (o:=off+i * 35) (jW u) aj hcell Tryz.underlying219 rfl (by rw [qO _ uO.out];kernel_rfl) ?_)
     |(with_reducible apply fV))
    refine ⟨fH zKv hS rfl ?_⟩
    intro b8 w8 h8
    clear hS hcell
    go_wp2_with (with_reducible apply bZ)
    refine ⟨gy (jW u).toArray h8 aj aj (by rw [abL,qO _ uO.out];rfl) dB (by rw [abL,qO _ uO.out];kernel_rfl) (by rw [acE];exact XZ u) ?_⟩
    intro w9 h9
    clear h8
    go_wp2_with ((with_reducible refine bP ⟨?_⟩);refine iU h9 aj aV Tryz.underlying219 rfl (by rw [abL,qO _ uO.out];kernel_rfl) ?_)
    refine (agC u.1 uO.out u.2.seg u.2.at_ u.2.size h9).mono ?_
    rintro ee w10 ⟨v,rfl,q,rfl,h10⟩
    clear h9
    have h11:=YX h10
    clear h10
    go_wp2_with (first
     |((with_reducible refine qJ ⟨?_⟩);refine qB (e:=221) (sz:=33) (fA:=56) (cs:=(fB ⟨Rep.lg u,.slice (some ⟨q,0,none⟩) 3 3⟩).toArray) ak h11 aj rfl (uz ⟨Rep.lg u,.slice (some ⟨q,0,none⟩) 3 3⟩ uO.out) bJ ?_;intro bN wN hN)
     |(with_reducible apply nG))
    refine ⟨qY (cs:=(fB ⟨Rep.lg u,.slice (some ⟨q,0,none⟩) 3 3⟩).toArray) 221 33 56 ak hN aj aj (aS (aS (aS aV))) aV (uz ⟨Rep.lg u,.slice (some ⟨q,0,none⟩) 3 3⟩ uO.out) bJ aar jD.out (by rw [uz ⟨Rep.lg u,.slice (some ⟨q,0,none⟩) 3 3⟩ uO.out];decide) bJ rfl ?_⟩
    intro b' n' c2 mZ jQ
    go_wp2_with fail
    go_roundg (us.length - (i+1))
    case measure=>have:=bY.out;omega
    case rel=>
     refine ⟨i+1,rs++[⟨Rep.lg u,.slice (some ⟨q,0,none⟩) 3 3⟩],_,rfl,acO bY.out,rfl,by first|rfl|go_num,⟨?_,?_⟩,?_⟩
     ·rw [ab8,gG.out,ab8,rF.out.1];rfl
     ·intro r hr
      rcases acr.1 hr with hr|hr
      ·exact rF.out.2 r hr
      ·rw [ab7.1 hr];exact uO.out
     ·rw [ac4,acG,am9,ab6]
      have h15:Sat w0 mZ (aB 3 1 (.slice (some ⟨q,0,none⟩) 3 3) (ints (Rep.lg u).nums)::qQ rs::aB 221 33 (.slice (some ⟨b',0,none⟩) n' c2) (rs.flatMap fB++fB ⟨Rep.lg u,.slice (some ⟨q,0,none⟩) 3 3⟩)::F):=jQ.sb
      exact (Y2 (r:=⟨Rep.lg u,.slice (some ⟨q,0,none⟩) 3 3⟩) h15).sb
  ·have c3:¬ (i:Int)<(us.length:Int):=by omega
   have hi2:i=us.length:=oQ
   subst hi2
   rw [acK]at hrs
   clear hi hlt
   go_wp2_with fail
   go_ret
   exact ⟨_,rfl,rs,hrs.1,hS⟩
end
end Go.Proofs.YtihngncbioofnaaGreatDoor
namespace Go.aC
open Go.au
open Go.Seg (Log Keeps Holds HG lX mag aU)
open Go.ah (bV encs eY bT aG)
open Go.Rep (Use)
section
variable {n K r E B c:Nat}{L:Log}{M:au}{C:List (List aG)}{N:Int}{us:List Use}{ps:List (Bs×aU)}
theorem lX.size (h:lX L c us ps){s:Int} (hs:s∈L.aF.take c):L.size s≤33554432:=by
 rw [← h.aF]at hs
 obtain ⟨u,hu,rfl⟩:=abA.1 hs
 obtain ⟨_,_,h3,h4⟩:=h.use u hu
 omega
theorem lX.idx (h:lX L c us ps) (hL:L.Ok) (hl:ps.length≤65536):dH.Ok 3 true (ps.map Rep.lg):=by
 refine ⟨by rw [abj];exact hl,fun r hr=>?_,fun i a b ha hb=>?_⟩
 ·obtain ⟨q,hq,rfl⟩:=abA.1 hr
  obtain ⟨p1,p2,p3,p4⟩:=h.plc q hq
  have hz:=lX.size h p4
  have hsg:=afM p4
  obtain ⟨x,hx,hxe⟩:=abA.1 hsg
  have hnm:=hL.nums x hx
  refine ⟨h.key q hq,rfl,fun m hm=>?_⟩
  simp only [Rep.lg,ab5,ag3,anz]at hm
  rcases hm with rfl|rfl|rfl <;> omega
 ·rw [ab2]at ha hb
  obtain ⟨x,hx,rfl⟩:=ag0.1 ha
  obtain ⟨y,hy,rfl⟩:=ag0.1 hb
  obtain ⟨i1,rfl⟩:=abl.1 hx
  obtain ⟨i2,rfl⟩:=abl.1 hy
  unfold dH.ahead
  rw [abN rfl]
  exact amL.1 h.rise i (i+1) i1 i2 oQ
theorem lX.uses (h:lX L c us ps) (hL:L.Ok) (hl:us.length≤65536):dH.Ok 3 false (us.map Rep.lC):=by
 have tZ:(us.map (·.seg)).Pairwise (· < ·):=by
  rw [h.aF];exact (Seg.JL hL).sublist (List.take_sublist _ _)
 refine ⟨by rw [abj];exact hl,fun r hr=>?_,fun i a b ha hb=>?_⟩
 ·obtain ⟨u,hu,rfl⟩:=abA.1 hr
  obtain ⟨p1,p2,p3,p4⟩:=h.use u hu
  have hsg:u.seg∈L.aF:=afM (by rw [← h.aF];exact abA.2 ⟨u,hu,rfl⟩)
  obtain ⟨x,hx,hxe⟩:=abA.1 hsg
  have hnm:=hL.nums x hx
  refine ⟨rfl,rfl,fun m hm=>?_⟩
  simp only [Rep.lC,ab5,ag3,anz]at hm
  rcases hm with rfl|rfl|rfl <;> omega
 ·rw [ab2]at ha hb
  obtain ⟨x,hx,rfl⟩:=ag0.1 ha
  obtain ⟨y,hy,rfl⟩:=ag0.1 hb
  obtain ⟨i1,rfl⟩:=abl.1 hx
  obtain ⟨i2,rfl⟩:=abl.1 hy
  unfold dH.ahead
  rw [abk aN]
  have:=amL.1 tZ i (i+1) (by rw [abj];exact i1) (by rw [abj];exact i2) oQ
  rw [List.getElem_map,List.getElem_map]at this
  exact this
end
structure Hd (T:Kept) (P:ByteArray→Prop) (K:Nat) (M:au):Prop where
 ok:M.Ok K
 nm:∀ k,k≤M.waits.length→(∀ t∈T,bK (M.lU k) t.1=some t.2.1)∧∀ p∈M.lU k,(∃ t∈T,p.1=t.1)∨P p.1
 fil:∀ t∈T,M.file t.2.1=t.2.2
section
variable {T:Kept}{P:ByteArray→Prop}{K K' r:Nat}{M:au}{s:ByteArray}{L:Log}{N:Int}
end
section
variable {T:Kept}{P:ByteArray→Prop}{n K K' E B c:Nat}{L:Log}{M M':au}{C:List (List aG)}{N:Int}{b1 b2:ah.Bs}{us:List Use}
def newer (N:Int) (s:ByteArray):Prop:=∃ m:Int,N<m∧s=Seg.name m
end
end Go.aC
namespace Go.Proofs.YtihngncbioofnaaGreatDoor
open Go Go.Sl Go.au Go.MapKept Go.RowKit
section
variable {P:Program}{w0 w:World}{L:List aH}{ops:Array Oper}{rest:List Oper}{a:Act}{Q:Exit→Act→World→Prop}{dst:Option Tmp}{t ty e:TypeId}{pos:String}{after:Array Edge}{x y:Operand}{v1 v2:Value}{cs1 cs2:Array Value}{g:Nat×Bool}{op:Op}{sz fA:Nat}
theorem aj0 (hb:oL P t e sz fA=true) (h1:v1.cells.size=sz) (h2:v2.cells.size=sz) (hle:2 * sz≤16777216) (w:World) :
  (Instr.buildSlice t 2 #[(0,v1),(1,v2)]).run P w = .ok (.slice (some ⟨w.heap.size,0,none⟩) 2 2) (w.alloc (.cells (v1.cells++v2.cells) e)):=by
 obtain ⟨hu,i,z,hi,hz,e1,e2,e3,e4⟩:=wP hb
 subst e1
 have hzv:(zeroValue e).run P w = .ok z w:=by simp [zeroValue,typeInfo,hi,hz]
 have hsz':(sizeOf e).run P w = .ok i.size w:=by simp [sizeOf,typeInfo,hi]
 have hnz:¬ (2 * i.size=0):=oQ
 have hle':¬ (2 * i.size>2^24):=oQ
 unfold Instr.buildSlice
 simp only [ach,agV hu,abW,hsz',abk hle',abk hnz,hzv,acy]
 have hf:Instr.fill (fun i'=>some (i' * i.size,i.size)) ((Array.range (2 * i.size)).map (z.cells[· % z.cells.size]!)) [(0,v1),(1,v2)]=some (v1.cells++v2.cells):=by
  generalize hz0:(Array.range (2 * i.size)).map (z.cells[· % z.cells.size]!)=z0
  have hs1:z0.size=2 * i.size:=by rw [← hz0];simp
  have hf1:∀ (v:Value) (off:Nat) (cs:Array Value),v.cells.zipIdx.foldl (fun cs (c,j)=>cs.setIfInBounds (off+j) c) cs=eP cs off v.cells.toList:=fun v off cs=>by
   have:=NH v.cells.toList 0 off cs
   rw [aj9]at this
   rw [← this,← Array.foldl_toList,Array.toList_zipIdx]
  unfold Instr.fill
  simp only [Nat.zero_mul]
  have hc:¬ ((v1.cells.size≠i.size || 0+v1.cells.size>z0.size)=true):=by
   rw [hs1];simp [h1];omega
  simp only [abk hc]
  rw [hf1]
  unfold Instr.fill
  simp only [Nat.one_mul]
  have hc2:¬ ((v2.cells.size≠i.size || i.size+v2.cells.size>(eP z0 0 v1.cells.toList).size)=true):=by
   rw [kE,hs1];simp [h2];omega
  simp only [abk hc2]
  rw [hf1]
  unfold Instr.fill
  congr 1
  apply Array.toList_inj.1
  have hl1:v1.cells.toList.length=i.size:=by rw [acj];exact h1
  have hl2:v2.cells.toList.length=i.size:=by rw [acj];exact h2
  have hz1:z0.toList.length=2 * i.size:=by rw [acj];exact hs1
  rw [lN _ _ _ (by rw [kE,hs1,hl2];omega),lN _ _ _ (by rw [hs1,hl1];omega),anx]
  rw [adW,acS,acp,acU oQ,acs oQ,acV (by rw [aac,acg,hl1,hl2,hz1];omega),ab6]
 simp only [hf]
 simp [newRow,go_sem]
theorem alX (hb:oL P ty e sz fA=true) (hs:Sat w0 w L) (hx:a.eval x=v1) (hy:a.eval y=v2) (hc1:v1.cells=cs1) (hc2:v2.cells=cs2) (h1:cs1.size=sz) (h2:cs2.size=sz) (hle:2 * sz≤16777216)
  (hK:∀ b w',Sat w0 w' (pt b (.cells (cs1++cs2) e (0,0))::L)→wpList P ops Q rest (a.put dst (.slice (some ⟨b,0,none⟩) 2 2)) w'):wpList P ops Q (⟨dst,.buildSlice ty 2 #[(0,x),(1,y)],t,pos,after,none⟩::rest) a w:=by
 subst hc1;subst hc2
 refine afZ rfl fun _ hK'=>?_
 have hS:=hs.alloc (.cells (v1.cells++v2.cells) e)
 unfold Oper.wp execOp
 simp only [hx,hy,agh,aci,acZ,ach,acy,aj0 hb h1 h2 hle w,abW]
 exact hK' _ _ (hK _ _ hS)
end
end Go.Proofs.YtihngncbioofnaaGreatDoor
namespace Go.aC
open Go.ah (Bs)
theorem PO (l p:List UInt8):Lib.hasPrefix l p=decide (l.take p.length=p):=by
 rw [amO,decide_eq_true_iff]
 unfold Lib.hasPrefix
 rw [List.isPrefixOf_iff_prefix,List.prefix_iff_eq_take]
 exact eq_comm
theorem aeA {l p:List UInt8} (h:l.take p.length=p):Lib.trimPrefix l p=l.drop p.length:=by
 unfold Lib.trimPrefix
 rw [abN (by rw [PO,decide_eq_true_iff];exact h)]
theorem YR {s:ByteArray} (h:s.data.toList.take 4=[105,100,120,46]∨s.data.toList.take 4=[117,115,101,46]):number s=Seg.number ⟨(Seg.lead++s.data.toList.drop 4).toArray⟩:=by unfold number;rw [abN h]
theorem ahX {s:ByteArray} (h:¬ (s.data.toList.take 4=[105,100,120,46]∨s.data.toList.take 4=[117,115,101,46])):number s=(0,false):=by unfold number;rw [abk h]
end Go.aC
namespace Go.Proofs.YtihngncbioofnaaGreatDoor
open Go Go.Sl Go.au Go.MapKept Go.RowKit
section
variable {P:Program}{w:World}{ops:Array Oper}{rest:List Oper}{a:Act}{Q:Exit→Act→World→Prop}{dst:Option Tmp}{t ty:TypeId}{pos:String}{after:Array Edge}{x y:Operand}
theorem adz (h:Stop (wpList P ops Q (⟨dst,.buildSlice ty 2 #[(0,x),(1,y)],t,pos,after,none⟩::rest) a w)):wpList P ops Q (⟨dst,.buildSlice ty 2 #[(0,x),(1,y)],t,pos,after,none⟩::rest) a w:=h.out
end
section
variable {w0 w:World}{F:List aH}{m K:Nat}{M:au}
theorem Vj (s p:ByteArray) (w:World):Calls Tryz.prog 143 #[.string s,.string p] w (aP fun v w'=>v = .tuple #[.string ⟨(Lib.trimPrefix s.data.toList p.data.toList).toArray⟩,.bool (Lib.hasPrefix s.data.toList p.data.toList)]∧w=w'):=
 (Tryz.strings_CutPrefix s p w).mono fun e w' ⟨he,hw⟩=>⟨_,he,rfl,hw.symm⟩
theorem Vk (s p:ByteArray) (k:Nat) (hk:p.data.toList.length=k) (h:s.data.toList.take k=p.data.toList) (w:World):Calls Tryz.prog 143 #[.string s,.string p] w (aP fun v w'=>v = .tuple #[.string ⟨(s.data.toList.drop k).toArray⟩,.bool true]∧w=w'):=by
 subst hk
 have hc:=Vj s p w
 rw [aC.aeA h,aC.PO,acT h]at hc
 exact hc
theorem Vh (s p:ByteArray) (k:Nat) (hk:p.data.toList.length=k) (h:¬ s.data.toList.take k=p.data.toList) (w:World):Calls Tryz.prog 143 #[.string s,.string p] w (aP fun v w'=>(∃ r:ByteArray,v = .tuple #[.string r,.bool false])∧w=w'):=by
 subst hk
 have hc:=Vj s p w
 rw [aC.PO,acu h]at hc
 exact hc.mono fun e w' ⟨v,he,hv,hw⟩=>⟨v,he,⟨_,hv⟩,hw⟩
theorem X8 (r:List UInt8):(⟨#[115,101,103,46]⟩:ByteArray)++(⟨r.toArray⟩:ByteArray)=⟨(Seg.lead++r).toArray⟩:=by
 apply ByteArray.ext
 rw [ByteArray.data_append]
 apply Array.toList_inj.1
 simp [Seg.lead]
set_option maxRecDepth 20000 in
theorem Xr (s:ByteArray) (hs:s.size≤4000000000) (h:Sat w0 w F) :
  Calls Tryz.prog 85 #[.string s] w (aP fun v w'=>v = .tuple #[.int .i64 (aC.number s).1,.bool (aC.number s).2]∧Sat w0 w' F):=by
 have Hs:=uQ hs
 have hsz:∀ r:List UInt8,r.length≤4000000000→¬ 9223372036854775807<(⟨#[115,101,103,46]⟩:ByteArray).size+(⟨r.toArray⟩:ByteArray).size:=fun r hr=>by
  have:(⟨r.toArray⟩:ByteArray).size=r.length:=by show r.toArray.size=_;exact abL ..
  have h4:(⟨#[115,101,103,46]⟩:ByteArray).size=4:=rfl
  omega
 have gZ:=uQ hsz
 have Hl:=uQ (show s.data.toList.length≤4000000000 from by rw [acj];exact hs)
 clear hs hsz
 go_enter Tryz.func85,Tryz.ntmps85
 go_wp2_with ((with_reducible refine adz ⟨?_⟩);refine alX (e:=9) (sz:=1) (fA:=16) (cs1:=#[.string ⟨#[105,100,120,46]⟩]) (cs2:=#[.string ⟨#[117,115,101,46]⟩]) ak h aj aj rfl rfl rfl rfl bJ ?_;intro b w1 h1)
 replace h1:Sat w0 w1 (pt b (.cells #[.string ⟨#[105,100,120,46]⟩,.string ⟨#[117,115,101,46]⟩] 9 (0,0))::F):=h1
 go_loopg [10] 3 (fun g iq wr=>∃ i:Nat,g=3 - i∧i≤2∧iq = .int .i64 i∧wr=w1∧(1≤i→¬ s.data.toList.take 4=[105,100,120,46])∧(2≤i→¬ s.data.toList.take 4=[117,115,101,46]))
 case atStart=>exact ⟨0,rfl,by omega,rfl,rfl,fun h=>by omega,fun h=>by omega⟩
 case round=>
  obtain ⟨i,rfl,hi,rfl,rfl,hn1,hn2⟩:=hrel
  have h01:i=0∨i=1∨i=2:=oQ
  clear hi h
  have c0:=h1.cellAt 0 (.string ⟨#[105,100,120,46]⟩) rfl
  have c1:=h1.cellAt 1 (.string ⟨#[117,115,101,46]⟩) rfl
  rcases h01 with rfl|rfl|rfl
  ·clear hn1 hn2 c1
   go_wp2_with fail
   by_cases ht:s.data.toList.take 4=[105,100,120,46]
   ·refine (Vk s ⟨#[105,100,120,46]⟩ 4 rfl ht _).mono ?_
    rintro e w2 ⟨v,rfl,rfl,rfl⟩
    have hz:=gZ.out (s.data.toList.drop 4) (by rw [acg];have:=Hl.out;omega)
    have Hy:=uQ (aC.YR (s:=s) (.inl ht))
    clear ht gZ
    go_wp2_with fail
    rw [show (⟨#[115,101,103,46]⟩:ByteArray)++(⟨(s.data.toList.drop 4).toArray⟩:ByteArray)=⟨(Seg.lead++s.data.toList.drop 4).toArray⟩ from X8 _]
    refine (QN _ h1).mono ?_
    rintro e w3 ⟨v,rfl,rfl,h3⟩
    go_wp2_with fail
    go_ret2
    exact ⟨_,rfl,by rw [Hy.out];rfl,h3.drop⟩
   ·refine (Vh s ⟨#[105,100,120,46]⟩ 4 rfl ht _).mono ?_
    rintro e w2 ⟨v,rfl,⟨r,rfl⟩,rfl⟩
    clear c0
    go_wp2_with fail
    go_roundg 2
    case measure=>omega
    case rel=>exact ⟨1,rfl,by omega,rfl,rfl,fun _=>ht,fun h=>by omega⟩
  ·have ht1:=hn1 oQ
   clear hn1 hn2 c0
   go_wp2_with fail
   by_cases ht:s.data.toList.take 4=[117,115,101,46]
   ·refine (Vk s ⟨#[117,115,101,46]⟩ 4 rfl ht _).mono ?_
    rintro e w2 ⟨v,rfl,rfl,rfl⟩
    have hz:=gZ.out (s.data.toList.drop 4) (by rw [acg];have:=Hl.out;omega)
    have Hy:=uQ (aC.YR (s:=s) (.inr ht))
    clear ht ht1 gZ
    go_wp2_with fail
    rw [show (⟨#[115,101,103,46]⟩:ByteArray)++(⟨(s.data.toList.drop 4).toArray⟩:ByteArray)=⟨(Seg.lead++s.data.toList.drop 4).toArray⟩ from X8 _]
    refine (QN _ h1).mono ?_
    rintro e w3 ⟨v,rfl,rfl,h3⟩
    go_wp2_with fail
    go_ret2
    exact ⟨_,rfl,by rw [Hy.out];rfl,h3.drop⟩
   ·refine (Vh s ⟨#[117,115,101,46]⟩ 4 rfl ht _).mono ?_
    rintro e w2 ⟨v,rfl,⟨r,rfl⟩,rfl⟩
    clear c1
    go_wp2_with fail
    go_roundg 1
    case measure=>omega
    case rel=>exact ⟨2,rfl,by omega,rfl,rfl,fun _=>ht1,fun _=>ht⟩
  ·have Hy:=uQ (aC.ahX (s:=s) (fun h=>h.elim (hn1 oQ) (hn2 oQ)))
   clear hn1 hn2 c0 c1
   go_wp2_with fail
   go_ret2
   exact ⟨_,rfl,by rw [Hy.out];rfl,h1.drop⟩
end
section
variable {w0 w:World}{F:List aH}{m K:Nat}{M:au}
theorem YO {v:Value}{l:List ByteArray} (h:bG 1 v (strs l) w):∃ a c,v = .slice a l.length c:=by
 obtain ⟨a,n,c,rfl,hl,hx⟩:=h
 unfold strs at hl
 rw [abj,acP]at hl
 exact ⟨a,c,by rw [hl]⟩
theorem Pm {l:List ByteArray}{i:Nat}{s:ByteArray}{a:Option Addr}{n c:Nat} (h:bG 1 (.slice a n c) (strs l) w) (hi:l[i]?=some s):∃ bk off,a=some ⟨bk,off,none⟩∧w.cell? ⟨bk,off+i,none⟩=some (.string s):=by
 have hx:(strs l)[i]?=some (.string s):=by unfold strs;rw [ab2,hi];rfl
 obtain ⟨bk,off,rfl,hc⟩:=qx h hx
 exact ⟨bk,off,rfl,hc _ _ hx⟩
theorem Yg (ok:M.Ok K):M.list.length≤500:=by
 unfold au.list
 split
 ·exact acv _
 ·rw [abj];exact ok.gK.len
theorem ahL {l:List ByteArray}{i:Nat}{s:ByteArray} (h:l[i]?=some s) (x:Int):aC.xU (l.drop i) x=aC.xU (l.drop (i+1)) (if (aC.number s).2=true then max x (aC.number s).1 else x):=by
 obtain ⟨hi,rfl⟩:=abl.1 h
 rw [alJ hi]
 rfl
set_option maxRecDepth 20000 in
theorem ahM (hM:M.Ok K) (hn:∀ f∈M.list,f.size≤4000000000) (h:Sat w0 w (aK m M::F)):Calls Tryz.prog 106 #[ptr m] w (aP fun v w'=>v = .int .i64 (aC.newest M)∧Sat w0 w' (aK m M::F)):=by
 have hls:=I9 hM h
 have Hlen:=uQ (Yg hM)
 have Hn:=uQ hn
 have Hw:=uQ (show aC.xU M.list (-1)=aC.newest M from rfl)
 clear hn hM
 generalize M.list=l at *
 generalize aC.newest M=W at *
 go_enter Tryz.func106,Tryz.ntmps106
 go_wp2_with fail
 refine hls.mono ?_
 rintro e w1 ⟨v,rfl,hS,_⟩
 clear hls h
 obtain ⟨a,c,rfl⟩:=YO (Sat.rd hS)
 go_wp2_with fail
 go_loopg [3,11] l.length (fun g lv iq wr=>∃ (i:Nat) (x:Int),g=l.length - i∧i≤l.length∧lv = .int .i64 x∧iq = .int .i64 i∧aC.xU (l.drop i) x=W∧Sat w0 wr (aB 9 1 (.slice a l.length c) (strs l)::aK m M::F))
 case atStart=>exact ⟨0,-1,rfl,acv _,rfl,rfl,Hw.out,hS⟩
 case round=>
  obtain ⟨i,x,rfl,hi,rfl,rfl,hx,hS2⟩:=hrel
  clear hS
  by_cases hlt:i<l.length
  ·have c1:(i:Int)<(l.length:Int):=by omega
   have hwi:IntKind.i64.wrap ((i:Int)+1)=(i:Int)+1:=abX _ (by have:=Hlen.out;omega)
   obtain ⟨s,hs⟩:∃ s,l[i]?=some s:=⟨_,aad hlt⟩
   obtain ⟨bk,off,rfl,hc⟩:=Pm (Sat.rd hS2) hs
   have Hx:=uQ (hx.symm.trans (ahL hs x))
   have hsz:=Hn.out s (abn hs)
   have bY:=uQ hlt
   clear hx hs hlt hi
   go_wp2_with fail
   refine (Xr s hsz hS2).mono ?_
   rintro e w2 ⟨v,rfl,rfl,hS3⟩
   clear hS2 hc
   generalize (aC.number s).1=n at *
   generalize (aC.number s).2=b at *
   cases b with
   |true=>
    go_wp2_with fail
    go_roundg (l.length - (i+1))
    case measure=>have:=bY.out;omega
    case rel=>exact ⟨i+1,max x n,rfl,acO bY.out,by first|rfl|(congr 1),by first|rfl|go_num,Hx.out.symm,hS3⟩
   |false=>
    go_wp2_with fail
    go_roundg (l.length - (i+1))
    case measure=>have:=bY.out;omega
    case rel=>exact ⟨i+1,x,rfl,acO bY.out,rfl,by first|rfl|go_num,Hx.out.symm,hS3⟩
  ·have c1:¬ (i:Int)<(l.length:Int):=by omega
   have Hx:=uQ (show x=W by rw [acV oQ]at hx;exact hx)
   clear hx hlt hi
   go_wp2_with fail
   go_ret
   exact ⟨_,rfl,by rw [Hx.out];rfl,hS2.drop⟩
end
end Go.Proofs.YtihngncbioofnaaGreatDoor
namespace Go.Seg
open Go.au
open Go.ah (Bs aG encs eY)
open Go.Rep
structure Rp (K r E B n:Nat) (L:Log) (M:au) (C:List (List aG)):Prop where
 hg:HG K r E B n L M C
 tmp:bK M.now aC.tmp=none
 few:C.flatten.length≤n
 small:∀ p∈M.now,p.1.size≤24
 thin:∀ e∈C.flatten,e.data.length≤300
section
variable {K r E B n:Nat}{L:Log}{M M':au}{C:List (List aG)}{x:aG}
theorem YC (k:Int):(name k).size≤24:=by
 rcases aC.JH k with z|⟨z,_⟩
 ·rw [z];decide
 ·rw [z];decide
theorem HG.apart {K' E' B':Nat} (h:HG K r E B n L M C) (c:Calm K' r M') (ha:∀ k:Int,M'.all (name k)=M.all (name k)) (hu:M'.used≤n * 400+B') (hn:M'.now.length≤n+E'):HG K' r E' B' n L M' C:=by
 have has:∀ k:Int,(∃ i,bK M'.now (name k)=some i)↔∃ i,bK M.now (name k)=some i:=fun k=>by
  rw [← aC.DW c.quiet,← aC.DW h.keeps.calm.quiet,ha]
 exact ⟨⟨h.keeps.log,c,fun s hs=>(has s.1).2 (h.keeps.has s hs)⟩,h.len,h.at_,fun k es hk=>by rw [ha];exact h.file k es hk,h.good,h.count,hu,hn,fun k i hk hi=>by
  obtain ⟨j,hj⟩:=(has k).1 ⟨i,hi⟩
  exact h.cover k j hk hj⟩
theorem aaS {l:List aG} (h:∀ e∈l,e.data.length≤300) (hd:x.data.length≤300):∀ e∈l++[x],e.data.length≤300:=fun e he=>by
 rcases acr.1 he with he|he
 ·exact h e he
 ·rw [ab7.1 he];exact hd
theorem Rp.grown (h:Rp K r E B n L M C){K' n':Nat}{L':Log}{C':List (List aG)} (hg:HG K' r E B n' L' M' C') (hr:aC.Grown M M') (hf:C'.flatten.length≤n') (ht:∀ e∈C'.flatten,e.data.length≤300):Rp K' r E B n' L' M' C':=by
 refine ⟨hg,?_,hf,fun p hp=>?_,ht⟩
 ·cases hi:bK M'.now aC.tmp with
  |none=>rfl
  |some i=>
   rcases hr _ (jE hi) with q|⟨k,q⟩
   ·have:=BM h.hg.keeps.calm.ok.gK.lW.keys (show (aC.tmp,i)∈M.now from q)
    rw [h.tmp]at this;cases this
   ·exact absurd q (aC.FN k)
 ·rcases hr p hp with q|⟨k,q⟩
  ·exact h.small p q
  ·rw [q];exact YC k
theorem Rp.mono (h:Rp K r E B n L M C){K' E' B' n':Nat} (h1:K≤K') (h2:E≤E') (h3:B≤B') (h4:n≤n'):Rp K' r E' B' n' L M C:=⟨h.hg.mono h1 h2 h3 h4,h.tmp,abV h.few h4,h.small,h.thin⟩
theorem Rp.yes (h:Rp K r E B n L M C) (hn:n<1000) (hk:x.key.length=32) (hd:x.data.length≤300) (h0:(ah.encode x).2=0) (hz:(L.append M x).2.2=0) :
  ∃ C',Rp (K+4) r E B (n+1) (L.append M x).1.1 (L.append M x).1.2 C'∧C'=put C (L.fits (ah.encode x).1.length) x∧C'.flatten=C.flatten++[x]∧∃ row,dR 0 C'=dR 0 C++[row]∧row.2.e=x∧iE row=(L.append M x).2.1:=by
 obtain ⟨_,_,_,a4⟩:=h.hg.append hn x hk hd h0 (.inl hz)
 have hfl:=Zu C (L.fits (ah.encode x).1.length) x h.hg.zk
 refine ⟨_,h.grown a4 (aC.EL L M x) ?_ ?_,rfl,hfl,_,ZX C _ x h.hg.zk,Zr C _ x,(h.hg.ado h0 hz).symm⟩
 ·rw [hfl,aac,acC];have:=h.few;omega
 ·rw [hfl];exact aaS h.thin hd
theorem Rp.no (h:Rp K r E B n L M C) (hk:x.key.length=32) (hz:(L.append M x).2.2≠0):Rp (K+4) r E B n (L.append M x).1.1 (L.append M x).1.2 C:=
 h.grown (h.hg.GZ x hk hz) (aC.EL L M x) h.few h.thin
theorem Rp.commit (h:Rp K r E B n L M C) (hn:n<1000) (hz:(L.append M aW).2.2=0) :
  (L.commit M).2.2=0∧(L.commit M).1.1.on=false∧∃ C',Rp (K+5) r E B (n+1) (L.commit M).1.1 (L.commit M).1.2 C'∧(∃ row,dR 0 C'=dR 0 C++[row]∧row.2.e=aW)∧C'.flatten=C.flatten++[aW]∧(∃ es,C'≠[]∧C'[C'.length - 1]?=some es∧lJ es=true):=by
 obtain ⟨a1,a2,_,a4⟩:=h.hg.commit hn (.inl hz)
 have hfl:=Zu C (L.fits (ah.encode aW).1.length) aW h.hg.zk
 refine ⟨a1,a2,_,h.grown a4 (aC.X6 L M) ?_ ?_,⟨_,ZX C _ aW h.hg.zk,Zr C _ aW⟩,hfl,ae4 C _⟩
 ·rw [hfl,aac,acC];have:=h.few;omega
 ·rw [hfl];exact aaS h.thin aN
theorem Rp.aeg (h:Rp K r E B n L M C) (hz:(L.append M aW).2.2≠0):(L.commit M).2.2=(L.append M aW).2.2∧(L.commit M).1=(L.append M aW).1:=by
 rw [Log.AY,abN hz]
 exact ⟨rfl,rfl⟩
theorem Rp.run (h:Rp K r E B n L M C) (hl:∃ es,C≠[]∧C[C.length - 1]?=some es∧lJ es=true):Rep.run (fun s=>L.bytes M s) L.aF = .inr C.length∧L.aF.length=C.length∧0<C.length∧L.aF.take C.length=L.aF∧nO L.aF=(C.length:Int) - 1:=by
 obtain ⟨es,hne,he,hen⟩:=hl
 have hp:0<C.length:=alA.2 hne
 obtain ⟨c,h1,h2,h3,h4⟩:=h.hg.run
 have e1:c=C.length:=by
  by_cases hh:c=C.length
  ·exact hh
  ·have:=h4 (C.length - 1) es oQ he
   rw [hen]at this;cases this
 obtain ⟨s1,s2⟩:=h.hg.aF
 refine ⟨by rw [← e1];exact h1,s1,hp,by rw [← s1];exact acK,?_⟩
 have e:L.aF.getLast?=some ((C.length:Int) - 1):=by
  rw [acW,s1,s2 _ oQ]
  congr 1;omega
 unfold nO
 rw [e]
theorem Rp.rows (h:Rp K r E B n L M C):rowsOf (fun s=>L.bytes M s) L.aF=dR 0 C:=by
 have e:=h.hg.rows C.length
 rw [← h.hg.aF.1,acK,h.hg.aF.1,acK]at e
 exact e
theorem Rp.jd (h:Rp K r E B n L M C):(rowsOf (fun s=>L.bytes M s) L.aF).length≤n:=by
 rw [h.rows,← abj (f:=fun r:Row=>r.2.e),Qg]
 exact h.few
theorem Rp.row (h:Rp K r E B n L M C){q:Row} (hq:q∈dR 0 C):L.read M (iE q)=(q.2.e,0)∧eY q.2.e∧(q.2.size:Int)≤4294967296∧(q.2.at_:Int)≤4294967296:=by
 refine ⟨h.hg.P7 hq,?_⟩
 obtain ⟨j,es,h5,h6,h7⟩:=JA C 0 hq
 obtain ⟨u,v,h8,h9,h10⟩:=zl es 8 h7
 have hat:=abn (h.hg.at_ j es h5)
 have hsz:=h.hg.keeps.log.sizes _ hat
 have he:(encs es).length=(encs u).length+((ah.encode q.2.e).1.length+(encs v).length):=by
  conv=>lhs;rw [h8]
  rw [xg,aac]
  congr 1
  exact aac
 simp only at hsz
 exact ⟨(h.hg.good es (abn h5)).1 _ (by rw [h8];simp),by omega,by omega⟩
theorem Rp.Qm (h:Rp K r E B n L M C):∀ q∈rowsOf (fun s=>L.bytes M s) L.aF,(q.2.size:Int)≤4294967296:=fun q hq=>by
 rw [h.rows]at hq
 exact (h.row hq).2.2.1
theorem Rp.hint (h:Rp K r E B n L M C){kv:List (Bs×dM)} (hk:Tab.Lists (ledger (rowsOf (fun s=>L.bytes M s) L.aF)) kv) (h32:∀ q∈kv,q.1.length=32) :
  lX L C.length ((jw (fun s=>L.bytes M s) L.aF).map (upd kv)) (puts kv):=by
 have e:L.aF.take C.length=L.aF:=by rw [← h.hg.aF.1];exact acK
 have:=h.hg.hint (abm _) (kv:=kv) (by rw [e];exact hk) h32
 rw [e]at this
 exact this
theorem Rp.save (h:Rp K r E B n L M C) (hn:n+E≤480){N:Int} (h1:0≤N) (h2:N<1048576) (b1 b2:Bs) :
  Rp (K+600) r (E+2) (B+b1.length+b2.length) n L (aC.save M N b1 b2).1 C∧((aC.save M N b1 b2).2=0∨(aC.save M N b1 b2).2=11) ∧
   (∀ f∈(aC.write (aC.write M (aC.name aC.idx N) b1).1 (aC.name aC.use N) b2).1.dP.1.list,f.size≤4000000000):=by
 have hnm:=h.hg.names
 have s:=aC.JF (b1:=b1) (b2:=b2) h.hg.keeps.calm h.tmp oQ h1 h2
 have g1:=aC.zI (ld:=aC.idx) rfl aN N h1 h2
 have g2:=aC.zI (ld:=aC.use) rfl aN N h1 h2
 have hsz:∀ ld:ByteArray,ld.data.toList.length=4→(aC.name ld N).size≤24:=fun ld hl=>by
  show (aC.name ld N).data.size≤24
  rw [← acj,aC.name_eq ld N h1 h2,aac,hl,vC];omega
 refine ⟨⟨h.hg.apart s.calm (fun k=>?_) (by have:=s.used;have:=h.hg.used;omega) (by have:=s.len;omega),s.tmp,h.few,fun p hp=>?_,h.thin⟩,s.done.imp (·.1) id,fun f hf=>?_⟩
 ·by_cases hk:0≤k∧k<1048576
  ·exact s.other _ (aC.FN k).symm (aC.JI k N h1 h2) (aC.JJ k N h1 h2) (aC.PD (by rw [aC.xY]))
  ·exact s.other _ (aC.FN k).symm (aC.JI k N h1 h2) (aC.JJ k N h1 h2) (aC.PD (by rw [aC.xY]))
 ·rcases s.names p hp with q|q|q
  ·exact h.small p q
  ·rw [q];exact hsz _ rfl
  ·rw [q];exact hsz _ rfl
 ·have w1:=aC.C9 (b:=b1) h.hg.keeps.calm h.tmp oQ g1 (aC.Oz N h1 h2)
  have w2:=aC.C9 (b:=b2) w1.calm w1.tmp (by have:=w1.len;omega) g2 (aC.Ru N h1 h2)
  rw [w2.calm.dP.quiet.list,aC.JW]at hf
  obtain ⟨p,hp,rfl⟩:=abA.1 hf
  refine abV (m:=24) ?_ aN
  rcases w2.names p hp with q|q
  ·rcases w1.names p q with q|q
   ·exact h.small p q
   ·rw [q];exact hsz _ rfl
  ·rw [q];exact hsz _ rfl
end
end Go.Seg
namespace Go.Tab
open Go.ah (Bs)
section
variable {α V:Type}{m:Bs→Option V}{k:Bs}{v:V}
end
end Go.Tab
namespace Go.Seg
open Go.au
open Go.ah (Bs aG encs eY)
section
variable {K r:Nat}{L:Log}{M:au}
end
end Go.Seg
namespace Go.Rep
open Go.ah (Bs aG eY)
open Go.Seg (aU)
open Go.Tab
end Go.Rep
namespace Go.Seg
open Go.au
open Go.ah (Bs aG encs eY)
open Go.Rep
section
variable {K r E B n:Nat}{L:Log}{M:au}{C:List (List aG)}{k:Bs}{pl:aU}
theorem NM (hk:k.length=32) (d:Bs) (hd:d.length≤300):(ah.encode ⟨0,k,d⟩).2=0:=aaT (d:=⟨0,k,d⟩) hk hd
theorem afU (hk:k.length=32):(ah.encode ⟨1,k,[]⟩).2=0:=aaT (d:=⟨1,k,[]⟩) hk (acv _)
end
section
variable {K r E B n:Nat}{L:Log}{M:au}{C C0:List (List aG)}{x:aG}
theorem HG.pop (h:HG K r E B n L M C) (hne:C≠[]):∃ s,L.l.getLast?=some s∧(L.remove M s.1).2=0∧HG (K+1) r E B n (L.remove M s.1).1.1 (L.remove M s.1).1.2 C.dropLast∧(L.remove M s.1).1.1.on=false∧(1≤L.fresh→(L.remove M s.1).1.1.fresh=L.fresh - 1)∧aC.Grown M (L.remove M s.1).1.2∧(L.remove M s.1).1.1.limit=L.limit:=by
 have hpos:0<C.length:=alA.2 hne
 have hlen:=h.len
 have hcnt:=h.count
 obtain ⟨c,hc⟩:∃ c,C.length=c+1:=⟨C.length - 1,by omega⟩
 have hce:C[c]?=some (C[c]'oQ):=aad oQ
 have hat:=h.at_ c _ hce
 generalize C[c]'oQ=es at *
 refine ⟨((c:Int),8+((encs es).length:Int)),by rw [acW,show L.l.length - 1=c by omega];exact hat,?_⟩
 simp only
 have hk:L.at (c:Int)=some c:=h.at_k hce
 obtain ⟨i,hi⟩:=h.keeps.has _ (abn hat)
 simp only at hi
 have hcb:c<1048576:=by have:=h.keeps.log.nums _ (abn hat);simp only at this;omega
 have hr:=Fh h.keeps.calm.quiet hi
 obtain ⟨a1,a2,a3,a4⟩:=aC.Ju h.keeps.calm hi
 have Om:L.remove M (c:Int)=((L.without c,(M.remove (name (c:Int))).1),0):=by
  unfold Log.remove
  rw [hk]
  simp only
  rw [abN a1]
 have hok:=h.keeps.log.remove M (c:Int)
 have hcm:=h.keeps.calm.remove (name (c:Int))
 rw [Om]at hok ⊢
 simp only at hok ⊢
 have hl2:(L.without c).l=L.l.take c:=by
  unfold Log.without
  simp only
  rw [amZ,acV oQ,ab6]
 have hC2:C.dropLast=C.take c:=by rw [List.dropLast_eq_take,show C.length - 1=c by omega]
 have Ez:∀ k:Nat,k<c→name (k:Int)≠name (c:Int):=fun k hkc e=>by
  have:=zJ oQ oQ oQ oQ e;omega
 have hget:∀ k:Nat,k<c→∀ j,bK (M.remove (name (c:Int))).1.now (name (k:Int))=some j↔bK M.now (name (k:Int))=some j:=fun k hkc j=>by rw [a2,zL (Ez k hkc)]
 have WJ:∀ (k:Nat) (fs:List aG),C.dropLast[k]?=some fs→k<c∧C[k]?=some fs:=fun k fs hf=>by
  rw [hC2,ac0]at hf
  split at hf
  ·exact ⟨by omega,hf⟩
  ·cases hf
 refine ⟨trivial,⟨⟨hok,hcm,fun t ht=>?_⟩,?_,fun k fs hf=>?_,fun k fs hf=>?_,fun fs hf=>h.good fs (List.dropLast_subset _ hf),?_,?_,?_,fun k j hkk hj=>?_⟩,?_,fun hf=>?_,?_,rfl⟩
 ·rw [hl2]at ht
  obtain ⟨q,hq⟩:=anj ht
  rw [ac0]at hq
  split at hq
  ·rename_i hqc
   obtain ⟨j,hj⟩:=h.keeps.has t (abn hq)
   have WX:=h.at_ q _ (aad (show q<C.length by omega))
   rw [hq]at WX
   cases WX
   exact ⟨j,(hget q oQ j).2 hj⟩
  ·cases hq
 ·rw [hl2,abU,aik];omega
 ·obtain ⟨q1,q2⟩:=WJ k fs hf
  rw [hl2,ac0,abN q1]
  exact h.at_ k fs q2
 ·obtain ⟨q1,q2⟩:=WJ k fs hf
  rw [a3 _ (Ez k q1)]
  exact h.file k fs q2
 ·rw [aik];omega
 ·exact abV a4 h.used
 ·rw [a2];exact abV (zK _ _) h.names
 ·rw [aik]
  rw [a2]at hj
  by_cases e:k=c
  ·exfalso
   rw [e]at hj
   have:=(ab1.1 (jE hj)).2
   simp [bne,mP]at this
  ·rw [zL (fun q=>e (by have:=zJ oQ oQ oQ oQ q;omega))]at hj
   have:=h.cover k j hkk hj
   omega
 ·unfold Log.without
  simp only
  rw [abN oQ]
 ·unfold Log.without
  simp only
  rw [abN oQ]
 ·exact fun p hp=> .inl (aC.Jw hp)
structure pY (L:Log) (C C0:List (List aG)):Prop where
 base:Base C0 L.on C
 fresh:L.fresh=(C.length:Int) - C0.length
theorem HG.back:∀ (j:Nat){K:Nat}{L:Log}{M:au}{C:List (List aG)},HG K r E B n L M C→j≤C.length→L.fresh=j →
  (L.back j M).2=0∧HG (K+j) r E B n (L.back j M).1.1 (L.back j M).1.2 (C.take (C.length - j))∧(L.back j M).1.1.on=false∧(L.back j M).1.1.fresh=0∧aC.Grown M (L.back j M).1.2∧(L.back j M).1.1.limit=L.limit
 |0,K,L,M,C,h,_,hf=>by
  unfold Log.back
  refine ⟨rfl,?_,rfl,hf,aC.Grown.refl M,rfl⟩
  rw [Nat.sub_zero,acK]
  exact ⟨⟨h.keeps.log.aaD,h.keeps.calm,h.keeps.has⟩,h.len,h.at_,h.file,h.good,h.count,h.used,h.names,h.cover⟩
 |j+1,K,L,M,C,h,hj,hf=>by
  have hne:C≠[]:=by intro e;rw [e]at hj;simp at hj
  obtain ⟨s,hs,p1,p2,p3,p4,p5,p6⟩:=h.pop hne
  unfold Log.back
  rw [hs]
  simp only
  rw [abN p1]
  have hl:=aik (xs:=C)
  obtain ⟨b1,b2,b3,b4,b5,b6⟩:=HG.back j p2 oQ (by rw [p4 oQ];omega)
  refine ⟨b1,?_,b3,b4,p5.trans b5,b6.trans p6⟩
  rw [show K+(j+1)=K+1+j by omega]
  have e:C.dropLast.take (C.dropLast.length - j)=C.take (C.length - (j+1)):=by
   rw [hl,List.dropLast_eq_take,List.take_take]
   congr 1
   omega
  rw [← e]
  exact b2
theorem Rp.rollback (h:Rp K r E B n L M C) (hf:pY L C C0):(L.rollback M).2=0∧Rp (K+n) r E B n (L.rollback M).1.1 (L.rollback M).1.2 C0∧pY (L.rollback M).1.1 C0 C0∧(L.rollback M).1.1.limit=L.limit:=by
 have hle:=hf.base.le
 have hcn:=h.hg.count
 have hfr:=hf.fresh
 have e:L.fresh.toNat=C.length - C0.length:=oQ
 obtain ⟨b1,b2,b3,b4,b5,b6⟩:=HG.back (C.length - C0.length) h.hg oQ oQ
 have ht:C.take (C.length - (C.length - C0.length))=C0:=by rw [show C.length - (C.length - C0.length)=C0.length by omega];exact hf.base.pre
 rw [ht]at b2
 unfold Log.rollback
 rw [e]
 have hfew:C0.flatten.length≤n:=by
  have e1:=acX (fun z:List (List aG)=>z.flatten.length) (ac3 C0.length C)
  simp only [List.flatten_append,aac]at e1
  rw [hf.base.pre]at e1
  have:=h.few
  omega
 refine ⟨b1,(h.grown b2 b5 hfew fun e he=>h.thin e (by rw [← ac3 C0.length C,List.flatten_append,hf.base.pre];exact ahz _ he)).mono oQ (abm _) (abm _) (abm _),⟨by rw [b3];exact Base.start C0,by rw [b4];omega⟩,b6⟩
theorem pY.start {L:Log} (ho:L.on=false) (hf:L.fresh=0):pY L C C:=⟨by rw [ho];exact Base.start C,by rw [hf];omega⟩
theorem Keeps.Ul (h:Keeps K r L M) (h0:(ah.encode x).2=0) (hz:(L.append M x).2.2=0):(L.append M x).1.1.on=true∧(L.append M x).1.1.fresh=L.fresh+(if L.fits (ah.encode x).1.length=true then 0 else 1):=by
 cases hfi:L.fits (ah.encode x).1.length with
 |true=>
  rw [Log.yU h0 hfi]at hz ⊢
  have hon:=xw hfi
  obtain ⟨s,hl⟩:=h.log.last hon
  unfold Log.grow at hz ⊢
  rw [hl]at hz ⊢
  simp only at hz ⊢
  split at hz
  ·rename_i g;rw [abN g];exact ⟨hon,by simp⟩
  ·rename_i g;exact absurd hz g
 |false=>
  rw [Log.wR h0 hfi]at hz ⊢
  obtain ⟨_,s2,_,s4,_⟩:=h.shut
  unfold Log.begin at hz ⊢
  rw [abN s2]at hz ⊢
  generalize (L.shut M).1.1=L1 at *
  generalize (L.shut M).1.2=M1 at *
  unfold Log.jr at hz ⊢
  by_cases g2:1048576≤L1.next
  ·rw [abN g2]at hz
   exact absurd (show (16:Int)=0 from hz) aN
  rw [abk g2]at hz ⊢
  by_cases g3:(M1.create (name L1.next)).2=0
  rotate_left
  ·rw [abN g3]at hz
   exact absurd hz g3
  rw [abk (fun q=>q g3)]at hz ⊢
  by_cases g4:((M1.create (name L1.next)).1.append (name L1.next) (mag++(ah.encode x).1)).2=0
  ·rw [abN g4]
   exact ⟨rfl,by simp only;rw [s4];simp⟩
  rw [abk g4]at hz
  split at hz
  ·simp only at hz
   split at hz
   ·exact absurd hz aN
   ·rename_i g5;exact absurd hz g5
  ·exact absurd hz g4
theorem Rp.oN (h:Rp K r E B n L M C) (hf:pY L C C0) (h0:(ah.encode x).2=0) (hz:(L.append M x).2.2=0):pY (L.append M x).1.1 (put C (L.fits (ah.encode x).1.length) x) C0∧(L.append M x).1.1.on=true:=by
 have key:=h.hg.keeps.Ul h0 hz
 refine ⟨⟨?_,?_⟩,key.1⟩
 ·exact hf.base.put xw x
 ·rw [key.2,hf.fresh]
  have hne:=h.hg.zk (k:=(ah.encode x).1.length)
  unfold put
  split
  ·have:=alA.2 (hne aQ)
   rw [aac,aik,acC];omega
  ·rw [aac,acC];omega
theorem adp {L:Log}{M:au}{x:aG} (h0:(ah.encode x).2=0) (hz:(L.append M x).2.2≠0) (ho:(L.append M x).1.1.on=true):L.on=true:=by
 cases hf:L.fits (ah.encode x).1.length with
 |true=>exact Seg.xw hf
 |false=>
  rw [Log.wR h0 hf]at hz ho
  have hs:(L.shut M).1.1.on=true→L.on=true:=by
   unfold Log.shut
   split
   ·exact fun e=>e
   ·split
    ·rename_i q;exact fun _=>q
    ·exact fun e=>e
  unfold Log.begin at hz ho
  split at ho
  ·rename_i e2
   rw [abN e2]at hz
   unfold Log.jr at hz ho
   split at ho;· exact hs ho
   rename_i g1;rw [abk g1]at hz
   split at ho;· exact hs ho
   rename_i g2;rw [abk g2]at hz
   split at ho
   ·rename_i g3;rw [abN g3]at hz;exact absurd rfl hz
   split at ho <;> exact hs ho
  ·exact hs ho
theorem Rp.NI (h:Rp K r E B n L M C) (hf:pY L C C0) (hk:x.key.length=32) (hz:(L.append M x).2.2≠0):pY (L.append M x).1.1 C C0:=by
 obtain ⟨k1,k2⟩:=h.hg.keeps.append x hk
 obtain ⟨k3,k4,k5,k6⟩:=k2 hz
 refine ⟨⟨hf.base.pre,fun ho=>?_⟩,by rw [k4];exact hf.fresh⟩
 by_cases h0:(ah.encode x).2=0
 ·exact hf.base.gt (adp h0 hz ho)
 ·rw [Log.GV h0]at ho
  exact hf.base.gt ho
end
def Apart (M M':au):Prop:=∀ t,(∀ k:Int,t≠name k)→M'.all t=M.all t
section
variable {K r E B n:Nat}{L:Log}{M M' M2:au}{C C0:List (List aG)}{x:aG}
theorem Apart.refl (M:au):Apart M M:=fun _ _=>rfl
theorem Apart.trans (h:Apart M M') (k:Apart M' M2):Apart M M2:=fun t ht=>(k t ht).trans (h t ht)
theorem Uk (h:Calm K r M) (k:Int) (b:Bs):Apart M (M.append (name k) b).1:=fun t ht=>by
 rcases uZ h.quiet (name k) b with ⟨_,q⟩|⟨j,q1,⟨q2,q3⟩|⟨q2,q3⟩⟩
 ·rw [q]
 ·rw [q3]
 ·exact (GY h q1 b oQ).2.2.2.2 t (ht k)
theorem aep (h:Calm K r M) (k:Int):Apart M (M.create (name k)).1:=fun t ht=>by
 rcases Eb h.quiet (name k) with ⟨_,_,q⟩|⟨q1,q2,q3,_⟩
 ·rw [q]
 ·exact (Ih h q1 q2 q3).2.2.2.2 t (ht k)
theorem P9 (h:Calm K r M) (k:Int):Apart M (M.remove (name k)).1:=fun t ht=>by
 cases hi:bK M.now (name k) with
 |none=>
  have:M.remove (name k)=(M,9):=by unfold au.remove;rw [h.quiet.off,hi];rfl
  rw [this]
 |some i=>exact (aC.Ju h hi).2.2.1 t (ht k)
theorem ak2 (h:Calm K r M) (s:ByteArray):Apart M (M.sync s).1:=fun t _=>(JX h.ok h.quiet s).all t
theorem akz (h:Calm K r M) (L:Log):Apart M (L.shut M).1.2∧Calm (K+1) r (L.shut M).1.2:=by
 unfold Log.shut
 split;· exact ⟨Apart.refl M,h.mono oQ⟩
 split
 ·split <;> exact ⟨ak2 h _,(h.sync _).mono oQ⟩
 ·exact ⟨Apart.refl M,h.mono oQ⟩
theorem adI (h:Calm K r M) (L:Log) (b:Bs):Apart M (L.jr M b).1.2:=by
 have hc:=aep h L.next
 have h1:=h.create (name L.next)
 have ha:=hc.trans (Uk h1 L.next (mag++b))
 have h2:=h1.append (name L.next) (mag++b)
 unfold Log.jr
 split;· exact Apart.refl M
 split;· exact hc
 split;· exact ha
 split
 ·exact ha.trans (P9 h2 _)
 ·exact ha
theorem ahd (h:Calm K r M) (L:Log) (x:aG):Apart M (L.append M x).1.2:=by
 unfold Log.append
 split;· exact Apart.refl M
 split
 ·unfold Log.grow
  split
  ·exact Apart.refl M
  ·split <;> exact Uk h _ _
 ·obtain ⟨s1,s2⟩:=akz h L
  unfold Log.begin
  split
  ·exact s1.trans (adI s2 _ _)
  ·exact s1
theorem UC:∀ (j:Nat){K:Nat}{L:Log}{M:au}{C:List (List aG)},HG K r E B n L M C→j≤C.length→Apart M (L.back j M).1.2
 |0,K,L,M,C,h,_=>Apart.refl M
 |j+1,K,L,M,C,h,hj=>by
  have hne:C≠[]:=by intro e;rw [e]at hj;simp at hj
  obtain ⟨s,hs,p1,p2,_⟩:=h.pop hne
  unfold Log.back
  rw [hs]
  simp only
  rw [abN p1]
  have hl:=aik (xs:=C)
  refine Apart.trans ?_ (UC j p2 oQ)
  unfold Log.remove
  split
  ·exact Apart.refl M
  ·split <;> exact P9 h.keeps.calm _
theorem ajd (h:HG K r E B n L M C) (hf:pY L C C0):Apart M (L.rollback M).1.2:=by
 have hfr:=hf.fresh
 have hle:=hf.base.le
 exact UC _ h oQ
theorem aje (h:HG K r E B n L M C) (hf:pY L C C0):aC.Grown M (L.rollback M).1.2:=by
 have hle:=hf.base.le
 have hfr:=hf.fresh
 have e:L.fresh.toNat=C.length - C0.length:=oQ
 obtain ⟨_,_,_,_,b5,_⟩:=HG.back (C.length - C0.length) h oQ oQ
 unfold Log.rollback
 rw [e];exact b5
end
structure HF (M:au) (N:Int) (pl:List (Bs×aU)) (us:List Use):Prop where
 one:M.all (aC.name aC.idx N)=(dH.book Xx.sum dH.zG true (pl.map lg),0)
 two:M.all (aC.name aC.use N)=(dH.book Xx.sum dH.zH false (us.map lC),0)
 num:∀ p∈M.now,(aC.number p.1).2=true→(aC.number p.1).1=N
def NF (M:au):Prop:=∀ p∈M.now,(aC.number p.1).2=false
def CW (C:List (List aG)):List Use:=(List.range' 0 C.length).map fun j:Nat=>⟨(j:Int),((mag++encs (C.getD j [])).length:Int),0⟩
structure DU (C0:List (List aG)) (N:Int) (us:List Use) (pl:List (Bs×aU)):Prop where
 last:N=(C0.length:Int) - 1
 kv:∃ kv,Tab.Lists (ledger (dR 0 C0)) kv∧(∀ q∈kv,q.1.length=32)∧us=(CW C0).map (upd kv)∧pl=puts kv
 ends:C0=[]∨∃ es,C0[C0.length - 1]?=some es∧lJ es=true
structure nX (r0 E n B0:Nat) (M:au) (C0:List (List aG)) (N:Int) (us:List Use):Prop where
 used:B0≤E * (20+28 * n)
 ex:∃ pl,DU C0 N us pl∧(300000≤r0→n≤45→E≤90→(C0=[]→NF M)∧(C0≠[]→HF M N pl us))
section
variable {K r E B n r0 B0:Nat}{L:Log}{M M':au}{C C0:List (List aG)}{N:Int}{us:List Use}{pl:List (Bs×aU)}
theorem HF.apart (h:HF M N pl us) (a:Apart M M') (g:aC.Grown M M') (h1:0≤N) (h2:N<1048576):HF M' N pl us:=
 ⟨(a _ fun k e=>aC.JI k N h1 h2 e.symm).trans h.one,(a _ fun k e=>aC.JJ k N h1 h2 e.symm).trans h.two,fun p hp hn=>by
  rcases g p hp with q|⟨k,q⟩
  ·exact h.num p q hn
  ·rw [q,aC.xY]at hn;cases hn⟩
theorem NF.apart (h:NF M) (g:aC.Grown M M'):NF M':=fun p hp=>by
 rcases g p hp with q|⟨k,q⟩
 ·exact h p q
 ·rw [q,aC.xY]
theorem nX.mono (h:nX r0 E n B0 M C0 N us){n' E':Nat} (hn:n≤n') (hE:E≤E'):nX r0 E' n' B0 M C0 N us:=by
 obtain ⟨u,pl,s,q⟩:=h
 exact ⟨abV u (amP hE oQ),pl,s,fun a b c=>q a oQ oQ⟩
theorem nX.apart (h:nX r0 E n B0 M C0 N us) (hc:C0.length≤1048576) (a:Apart M M') (g:aC.Grown M M'){n':Nat} (hn:n≤n'):nX r0 E n' B0 M' C0 N us:=by
 obtain ⟨u,pl,s,q⟩:=h.mono hn (abm E)
 refine ⟨u,pl,s,fun a1 a2 a3=>⟨fun e=>((q a1 a2 a3).1 e).apart g,fun e=>((q a1 a2 a3).2 e).apart a g ?_ ?_⟩⟩
 ·have:=alA.2 e;have:=s.last;omega
 ·have:=s.last;omega
theorem nX.start (hr:M.now=[]):nX r0 E n 0 M [] (-1) []:=
 ⟨acv _,[],⟨rfl,⟨[],⟨List.Pairwise.nil,fun k v=>⟨fun h=>(by cases h),fun h=>(by cases h)⟩⟩,fun q hq=>(by cases hq),rfl,rfl⟩,.inl rfl⟩,fun _ _ _=>⟨fun _ p hp=>(by rw [hr]at hp;cases hp),fun e=>absurd rfl e⟩⟩
theorem HG.uses (h:HG K r E B n L M C):jw (fun s=>L.bytes M s) L.aF=CW C:=by
 rw [h.ns]
 unfold jw CW
 rw [afE]
 refine amo fun j hj=>?_
 have hl:j<C.length:=by have:=List.mem_range'.1 hj;omega
 have e:=h.bytes (aad hl)
 simp only [Function.comp_apply,e]
 rw [ab3,aad hl]
 rfl
end
end Go.Seg
namespace Go.aI
open Go.ah (Bs bV aG bT encs eY)
open Go.Seg (aU)
open Go.Rep
def pay:List bV→Int
 |[]=>0
 |f::l=>(if f.e.tag=2 then 0 else (f.size:Int))+pay l
theorem PK:∀ (l:List bV) (f:bV),pay (l++[f])=pay l+(if f.e.tag=2 then 0 else (f.size:Int))
 |[],f=>by simp [pay]
 |g::l,f=>by
  have:=PK l f
  rw [acY]
  unfold pay
  omega
abbrev Kv:=List Int×aU
def iy (m:Bs→Option Kv) (k:Bs):Kv:=(m k).getD ([],aU.zero)
def oz (c:List Int) (s t:Int):List Int:=if t=0∧c.getLast?≠some s then c++[s] else c
def FK (m:Bs→Option Kv) (r:Row):Bs→Option Kv:=Tab.put m (dI r) (oz (iy m (dI r)).1 r.1 (dw r),iE r)
def sS (m:Bs→Option Kv) (r:Row):Bs→Option Kv:=if dw r=2 then m else FK m r
structure Plan where
 last:Int
 aF:List (Int×List bV)
 keys:Bs→Option Kv
 index:Bs→Option aU
def sG (a b:aU):Bool:=a.seg==b.seg && (a.at_==b.at_ && a.size==b.size)
def counts (P:Plan) (gs:List Int) (s:Int) (f:bV):Bool:=
 if f.e.tag=2 then false
 else if f.e.tag=0 then match P.index f.e.key with
  |some p=>sG p ⟨s,f.at_,f.size⟩
  |none=>false
 else sG (iy P.keys f.e.key).2 ⟨s,f.at_,f.size⟩ && (iy P.keys f.e.key).1.any fun t=>decide (t<s) && !gs.contains t
def ku (P:Plan) (gs:List Int) (s:Int):List bV→Int
 |[]=>0
 |f::l=>(if counts P gs s f=true then (f.size:Int) else 0)+ku P gs s l
theorem Yk (P:Plan) (gs:List Int) (s:Int):∀ (l:List bV) (f:bV),ku P gs s (l++[f])=ku P gs s l+(if counts P gs s f=true then (f.size:Int) else 0)
 |[],f=>by simp [ku]
 |g::l,f=>by
  have:=Yk P gs s l f
  rw [acY]
  unfold ku
  omega
def sparse (P:Plan) (gs:List Int) (pc:Int) (x:Int×List bV):Bool:=
 if pay x.2=0 then decide (0<pc) && (decide (x.1≠P.last) || decide (0<gs.length)) else decide (100 * ku P gs x.1 x.2<pc * pay x.2)
def nextL (P:Plan) (gs:List Int) (pc:Int) (l:List (Int×List bV)):List Int:=(l.filter fun x => !gs.contains x.1 && sparse P gs pc x).map (·.1)
theorem YL (P:Plan) (gs:List Int) (pc:Int) (l:List (Int×List bV)) (x:Int×List bV):nextL P gs pc (l++[x])=nextL P gs pc l++(if (!gs.contains x.1 && sparse P gs pc x)=true then [x.1] else []):=by
 unfold nextL
 rw [amM,ab8]
 congr 1
 rw [ain]
 split <;> rfl
def choose (P:Plan) (pc:Int):Nat→List Int→List Int
 |0,gs=>gs
 |n+1,gs=>if nextL P gs pc P.aF=[] then gs else choose P pc n (gs++nextL P gs pc P.aF)
def jH (gs:List Int) (l:List (Int×List bV)):List Int:=(l.filter fun x=>gs.contains x.1).map (·.1)
theorem Wx (gs:List Int) (l:List (Int×List bV)) (x:Int×List bV):jH gs (l++[x])=jH gs l++(if gs.contains x.1=true then [x.1] else []):=by
 unfold jH
 rw [amM,ab8]
 congr 1
 rw [ain]
 split <;> rfl
end Go.aI
namespace Go.Rep
structure gY where
 a:Option Addr
 n:Nat
 c:Nat
 last:Seg.aU
end Go.Rep
namespace Go.Proofs.YtihngncbioofnaaGreatDoor
open Go Go.Sl Go.au Go.MapKept Go.RowKit
def dG (a:Rep.gY):List Value:=[.slice a.a a.n a.c,.int .i64 a.last.seg,.int .i64 a.last.at_,.int .i64 a.last.size]
abbrev ny:Rep.gY:=⟨none,0,0,Seg.aU.zero⟩
theorem BJ (a:Rep.gY):(dG a).length=4:=rfl
theorem I4 (a:Rep.gY):(dG a).all (·.oneCell')=true:=rfl
theorem Df:jy Tryz.prog 266=some (.agg (slotL dG ⟨0,ah.zero32,ny⟩).toArray):=by kernel_rfl
theorem aiv:sF Tryz.prog 266=some [(0,1),(1,32),(33,4)]:=by kernel_rfl
section
variable {w0 w:World}{F R:List aH}{p n gn d c:Nat}{sv v:Value}{k:ah.Bs}{s:List (Tab.Slot (Rep.gY))}{a:Option Addr}
theorem Py (hl:0<s.length) (h:Sat w0 w (fG p 262 (.slice a s.length c) n gn::F)) :
  Calls Tryz.prog 164 #[ptr p] w (aP fun v w'=>v = .bool true∧w=w'):=by
 have e0:w.cell? ⟨p,0,none⟩=some (.slice a s.length c):=h.cellAt 0 _ rfl
 have c1:(0:Int)<(s.length:Int):=oQ
 go_enter Tryz.func164,Tryz.ntmps164
 go_wp2
 go_ret
 exact ⟨_,rfl,rfl,rfl⟩
abbrev jY.kX:=@dG
abbrev jY.sU:Nat:=37
abbrev jY.Ko:Nat:=4
theorem jY.Kw:type_of% @BJ:=@BJ
theorem jY.Rk:type_of% @Tryz.func165:=@Tryz.func165
theorem jY.Rl:type_of% @Tryz.ntmps165:=@Tryz.ntmps165
abbrev jY.CU:Nat:=262
abbrev jY.CV:Nat:=266
theorem jY.Rn:type_of% @Tryz.underlying266:=@Tryz.underlying266
theorem jY.Rq:type_of% @Df:=@Df
theorem jY.Q5:type_of% @I4:=@I4
set_option maxRecDepth 20000 in
open jY in
theorem Eh (g:Tab.Good s) (hc:s.length≤1073741824) (hk:k.length=32) (he:Tab.Ends s k d) (h:Sat w0 w (fG p 262 sv n gn::aB 266 37 sv (s.flatMap (slotL dG))::F)) :
  Calls Tryz.prog 165 #[ptr p,.agg (aA k).toArray] w (aP fun v w'=>∃ x,s[Tab.pos k s.length d]?=some x∧v = .tuple #[.int .i64 (Tab.pos k s.length d:Nat),.int .i64 ((d:Int)+1),.bool (decide (x.st=1))] ∧
   Sat w0 w' (fG p 262 sv n gn::aB 266 37 sv (s.flatMap (slotL dG))::F)):=OW
end
def dF (p:Nat) (m:ah.Bs→Option (Rep.gY)) (B:Nat):aH:=fun h=>∃ (t:Tab.Tb (Rep.gY)) (sv:Value),(t.Ok∧t.Is m∧t.n+t.gone≤B)∧stars [fG p 262 sv t.n t.gone,aB 266 37 sv (t.slots.flatMap (slotL dG))] h
theorem Dh:jy Tryz.prog 202=some (.agg (dG ⟨none,0,0,Seg.aU.zero⟩).toArray):=by kernel_rfl
section
variable {w0 w:World}{F R:List aH}{p B:Nat}{sv v:Value}{k:ah.Bs}{m:ah.Bs→Option (Rep.gY)}{t:Tab.Tb (Rep.gY)}
theorem dF.open (h:Sat w0 w (dF p m B::F)):∃ (t:Tab.Tb (Rep.gY)) (sv:Value),(t.Ok∧t.Is m∧t.n+t.gone≤B)∧Sat w0 w (fG p 262 sv t.n t.gone::aB 266 37 sv (t.slots.flatMap (slotL dG))::F):=by
 obtain ⟨ha,x,hx,q,r,dd,rfl,⟨t,sv,hin,hp⟩,hq⟩:=h
 refine ⟨t,sv,hin,ha,_,hx,?_⟩
 show stars ([fG p 262 sv t.n t.gone,aB 266 37 sv (t.slots.flatMap (slotL dG))]++F) _
 rw [qA]
 exact ⟨q,r,dd,rfl,hp,hq⟩
theorem dF.shut (h1:t.Ok) (h2:t.Is m) (h3:t.n+t.gone≤B) (h:Sat w0 w (fG p 262 sv t.n t.gone::aB 266 37 sv (t.slots.flatMap (slotL dG))::F)):Sat w0 w (dF p m B::F):=
 Sat.join (M:=[fG p 262 sv t.n t.gone,aB 266 37 sv (t.slots.flatMap (slotL dG))]) h fun _ hx=>⟨t,sv,⟨h1,h2,h3⟩,hx⟩
theorem YD (h:Sat w0 w F):Calls Tryz.prog 119 #[] w (aP fun v w'=>∃ p,v=ptr p∧Sat w0 w' (dF p (fun _=>none) 0::F)):=by
 go_enter Tryz.func119,Tryz.ntmps119
 go_wp2_with (first
  |((with_reducible refine at_make ⟨?_⟩);refine CZ (e:=266) (sz:=37) (fA:=88) (n:=8) ak Df h aj aj aN aN ?_;intro bM wM hM)
  |((with_reducible refine fO ⟨?_⟩);refine fU hM ay ay ?_;intro bB wB hB))
 go_ret
 refine ⟨_,rfl,bB,rfl,?_⟩
 have e:(List.replicate 8 (slotL dG ⟨0,ah.zero32,ny⟩)).flatten=(List.replicate 8 (⟨0,ah.zero32,ny⟩:Tab.Slot (Rep.gY))).flatMap (slotL dG):=(Cm 8 _).symm
 rw [e]at hB
 exact dF.shut (t:=⟨List.replicate 8 ⟨0,ah.zero32,ny⟩,0,0⟩) (Tab.O9 aN rfl) (Tab.O8 rfl 0 0) (abm 0) hB
theorem jY.Q7:type_of% @dF.open:=@dF.open
theorem jY.Q8:type_of% @Tryz.func122:=@Tryz.func122
theorem jY.Q9:type_of% @Tryz.ntmps122:=@Tryz.ntmps122
theorem jY.J9:type_of% @Dh:=@Dh
abbrev jY.yw:=@ny
abbrev jY.Ai:Nat:=202
theorem jY.Rf:type_of% @Py:=@Py
theorem jY.Rh:type_of% @Eh:=@Eh
theorem jY.CP:type_of% @Tryz.underlying202:=@Tryz.underlying202
theorem jY.Kq:type_of% @dF.shut:=@dF.shut
set_option maxRecDepth 20000 in
open jY in
theorem Wp (hB:B≤268435000) (hk:k.length=32) (h:Sat w0 w (dF p m B::F)) :
  Calls Tryz.prog 122 #[ptr p,.agg (aA k).toArray] w (aP fun v w'=>v = .tuple #[.agg (dG ((m k).getD ⟨none,0,0,Seg.aU.zero⟩)).toArray,.bool (m k).isSome]∧Sat w0 w' (dF p m B::F)):=OX
end
section
variable {w0 w:World}{F R:List aH}{p B N:Nat}{sv v:Value}{k:ah.Bs}{m:ah.Bs→Option (Rep.gY)}{t:Tab.Tb (Rep.gY)}
set_option maxRecDepth 20000 in
theorem ai8 (ok:t.Ok) (hN:t.n≤N) (hNb:N≤134217728) (Xk:t.slots.length≤1073741824) (h:Sat w0 w (fG p 262 sv t.n t.gone::aB 266 37 sv (t.slots.flatMap (slotL dG))::F)) :
  Calls Tryz.prog 205 #[ptr p,.int .i64 N] w (aP fun _ w'=>∃ s' sv',Tab.uV t s' N∧Sat w0 w' (fG p 262 sv' t.n 0::aB 266 37 sv' (s'.flatMap (slotL dG))::F)):=by
 have dA:=uQ ok;have HN:=uQ hN;have Sv:=uQ hNb
 have Hlen:=uQ (show ∀ x∈t.slots,(slotL dG x).length=37 from fun x hx=>ji dG x (ok.good.key x hx) 4 (BJ _))
 obtain ⟨la,lc,rfl⟩:=jI Hlen.out (Sat.rd (h.pick aX)) aN
 have hw0:IntKind.i64.wrap (2 * (N:Int))=2 * (N:Int):=abX _ oQ
 have XI:wrap64 (2 * (N:Int))=2 * (N:Int):=ahs _ oQ
 clear ok hN
 go_enter Tryz.func205,Tryz.ntmps205
 go_wp2_with fail
 go_loopg [4] (4 * N) (fun g cq wr=>∃ c:Nat,g=4 * N+8 - c∧cq = .int .i64 c∧(∃ j,c=2^j∧3≤j)∧8≤c∧(c=8∨c<4 * N)∧wr=w)
 case atStart=>exact ⟨8,by omega,rfl,⟨3,rfl,abm 3⟩,abm 8,.inl rfl,rfl⟩
 case round=>
  obtain ⟨c,rfl,rfl,⟨j,hj,hj3⟩,hc8,hc,rfl⟩:=hrel
  by_cases hlt:c<2 * N
  ·have c1:(c:Int)<2 * (N:Int):=by omega
   have hw1:IntKind.i64.wrap ((c:Int) * 2)=(c:Int) * 2:=abX _ oQ
   have XJ:wrap64 ((c:Int) * 2)=(c:Int) * 2:=ahs _ oQ
   have Hj:=uQ hj;have Dv:=uQ hj3;have bY:=uQ hlt;have tq:=uQ hc8
   clear hj hj3 hlt hc hc8
   go_wp2_with fail
   go_roundg (4 * N+8 - c * 2)
   case measure=>have:=bY.out;have:=tq.out;omega
   case rel=>exact ⟨c * 2,rfl,by first|rfl|go_num,⟨j+1,by rw [anC,Hj.out],by have:=Dv.out;omega⟩,by have:=tq.out;omega,.inr (by have:=bY.out;omega),rfl⟩
  ·have c1:¬ (c:Int)<2 * (N:Int):=by omega
   have HC:=uQ (show (∃ j,c=2^j∧3≤j)∧2 * N≤c∧8≤c∧(c=8∨c<4 * N) from ⟨⟨j,hj,hj3⟩,by omega,hc8,hc⟩)
   have hcb:c≤1073741824:=oQ
   have rC:=uQ hcb
   clear hj hj3 hlt hc hc8 hw0 hcb hNb
   go_wp2_with (first
    |((with_reducible refine bP ⟨?_⟩);refine gq h aj bF bJ ay ak ?_)
    |((with_reducible refine at_make ⟨?_⟩);refine CZ (e:=266) (sz:=37) (fA:=88) (n:=c) ak Df h aj aj (by have:=rC.out;omega) (by have:=rC.out;omega) ?_;intro bM wM hM)
    |((with_reducible refine bZ ⟨?_⟩);refine fD aQ aj ay pQ fP bJ ak aj ?_;intro wS hS))
   have e8:(List.replicate c (slotL dG ⟨0,ah.zero32,ny⟩)).flatten=(List.replicate c (⟨0,ah.zero32,ny⟩:Tab.Slot (Rep.gY))).flatMap (slotL dG):=(Cm c _).symm
   rw [e8]at hS
   have hS0:Sat w0 _ (fG p 262 (.slice (some ⟨bM,0,none⟩) c c) t.n 0::aB 266 37 (.slice (some ⟨bM,0,none⟩) c c) ((List.replicate c (⟨0,ah.zero32,ny⟩:Tab.Slot (Rep.gY))).flatMap (slotL dG))::aB 266 37 (.slice la t.slots.length lc) (t.slots.flatMap (slotL dG))::F):=hS.sb
   clear hS hM h e8 c1
   go_wp2_with fail
   go_loopg [31] t.slots.length (fun g iq wr=>∃ (i:Nat) (cur:List (Tab.Slot (Rep.gY))),g=t.slots.length - i∧i≤t.slots.length∧iq = .int .i64 i∧Tab.Half t.slots cur i∧cur.length=c ∧
    Sat w0 wr (fG p 262 (.slice (some ⟨bM,0,none⟩) c c) t.n 0::aB 266 37 (.slice (some ⟨bM,0,none⟩) c c) (cur.flatMap (slotL dG))::aB 266 37 (.slice la t.slots.length lc) (t.slots.flatMap (slotL dG))::F))
   case atStart=>exact ⟨0,_,rfl,acv _,rfl,Tab.half_start HC.out.1 aN rfl,aeV,hS0⟩
   case round=>
    obtain ⟨i,cur,rfl,hi,rfl,hH,hcl,hS⟩:=hrel
    clear hS0
    have HH:=uQ hH;have gB:=uQ hcl
    by_cases hlt:i<t.slots.length
    rotate_left
    ·obtain rfl:i=t.slots.length:=by omega
     have c1:¬ (t.slots.length:Int)<(t.slots.length:Int):=oQ
     clear hlt hH hi
     go_wp2_with fail
     go_end0
     obtain ⟨q1,q2,q3,q4⟩:=HH.out.done
     exact ⟨_,rfl,cur,⟨q1,q2,q3.trans dA.out.n.symm,q4.trans dA.out.n.symm,by rw [gB.out];exact HC.out.2.1,by rw [gB.out];exact HC.out.2.2.1,by rw [gB.out];exact HC.out.2.2.2⟩,_,hS.sb⟩
    have c1:(i:Int)<(t.slots.length:Int):=oQ
    have hwi:=zD (i:=i)
    obtain ⟨x,hx⟩:∃ x,t.slots[i]?=some x:=⟨_,aad hlt⟩
    have hxm:=abn hx
    have hst:=dA.out.good.st x hxm
    have Hxk:=uQ (dA.out.good.key x hxm)
    obtain ⟨bk,off,c',hsv,hcell⟩:=jF Hlen.out (Sat.rd (hS.pick eX)) hx aN
    cases hsv
    have gW:=Hlen.out x hxm
    have Hx:=uQ hx;have bY:=uQ hlt
    clear hx hxm hlt hH hi
    go_wp2_with (first
     |((with_reducible refine bP ⟨?_⟩);refine jk (b:=bk) (o:=off+i * 37) (slotL dG x) aj hcell Tryz.underlying266 rfl (by rw [gW];kernel_rfl) ?_)
     |(with_reducible apply fV))
    refine ⟨fH Df hS rfl ?_⟩
    intro b7 w7 hS7
    go_wp2_with (first|((with_reducible refine bZ ⟨?_⟩);refine gy (slotL dG x).toArray hS7 aj aj (by rw [abL,gW];rfl) dB (by rw [abL,gW];kernel_rfl) (by rw [acE];exact mY dG x (I4 _)) ?_;intro w10 dN)|(with_reducible apply bP))
    refine ⟨?_⟩
    clear hS hS7 hcell
    have f0:w10.cell? ⟨b7,0,none⟩=some (.int .i64 x.st):=dN.cellP aV 0 (by rw [abT];rfl)
    have f1:w10.rangeAt b7 1 (aA x.key):=Ac (dN.pick aV)
    by_cases h1:x.st=1
    rotate_left
    ·have hst1:((x.st:Int)==1)=false:=by rw [ab4];omega
     have H1:=uQ h1
     clear h1 f1
     go_wp2_with fail
     go_roundg (t.slots.length - (i+1))
     case measure=>have:=bY.out;omega
     case rel=>exact ⟨i+1,cur,rfl,bY.out,by first|rfl|go_num,HH.out.skip Hx.out H1.out,gB.out,dN.sb⟩
    ·have hus:Tab.used cur<cur.length:=by
      have h2:=HH.out.nu
      have h3:=Tab.NJ t.slots i
      have h4:=dA.out.n
      have h5:=HN.out
      have h6:=HC.out
      rw [gB.out];omega
     obtain ⟨dd,hdd⟩:=Tab.Iq (k:=x.key) HH.out.good (Tab.Iu hus)
     have H1:=uQ h1;have uM:=uQ hdd
     have hst1:((x.st:Int)==1)=true:=by rw [h1];rfl
     have wC:=uQ (show ∀ y∈cur,(slotL dG y).length=37 from fun y hy=>ji dG y (HH.out.good.key y hy) 4 (BJ _))
     clear h1 hus hdd
     go_wp2_with ((with_reducible refine bP ⟨?_⟩);refine jk (b:=b7) (o:=1) (aA x.key) aj f1 Tryz.underlying50 rfl (by rw [aZ,Hxk.out];kernel_rfl) ?_)
     have hf:=Eh HH.out.good (by rw [gB.out];exact rC.out) Hxk.out uM.out (dN.sb:Sat w0 w10 (fG p 262 (.slice (some ⟨bM,0,none⟩) c c) t.n 0::aB 266 37 (.slice (some ⟨bM,0,none⟩) c c) (cur.flatMap (slotL dG))::pt b7 (.cells (slotL dG x).toArray 266 (0,0))::aB 266 37 (.slice (some ⟨bk,off,none⟩) t.slots.length lc) (t.slots.flatMap (slotL dG))::F))
     clear dN f0 f1
     refine hf.mono ?_
     rintro ee iY ⟨v,rfl,y,hy,rfl,nM⟩
     clear hf hy
     have hlt2:=Tab.lM (k:=x.key) (d:=dd) HH.out.good.jB
     rw [gB.out]at hlt2
     have wG:=uQ (yh (f:=slotL dG) (k:=37) (i:=Tab.pos x.key cur.length dd) (x:=x) wC.out gW (Tab.lM HH.out.good.jB))
     have wH:=uQ (HH.out.step dA.out.good Hx.out H1.out uM.out)
     rw [gB.out]at wG wH
     rw [gB.out]
     have hrl:(cur.flatMap (slotL dG)).length=37 * c:=by rw [jd wC.out,gB.out]
     generalize Tab.pos x.key c dd=P0 at *
     have c2:(0:Int)≤(P0:Int):=oQ
     have c3:(P0:Int)<(c:Int):=oQ
     go_wp2_with fail
     have hSd:=nM.drew
     clear nM
     refine dU [6,7] (fun w'=>w'.cell? ⟨p,0,none⟩=some (.slice (some ⟨bM,0,none⟩) c c)∧w'.rangeAt b7 0 (slotL dG x)) ak ?_
     have hG:World.cell? _ ⟨p,0,none⟩=some (.slice (some ⟨bM,0,none⟩) c c)∧World.rangeAt _ b7 0 (slotL dG x):=⟨hSd.cellP bF 0 rfl,oH (hSd.pk (A:=pt b7 (.cells (slotL dG x).toArray 266 (0,0))))⟩
     refine rP 0 ?_ (y:=bf)
     refine rP 1 ?_ (y:=dS)
     refine rP 2 ?_ (y:=bU)
     refine rt 3 (h:=?_)
     refine rP 4 ?_ (y:=bf)
     refine ig 5 ay ak fE (iT (b:=b7) (o:=0) (slotL dG x) aj Tryz.underlying266 rfl (by rw [gW];kernel_rfl) (fun w hw=>hw.2)) aQ gQ ?_
     refine rP 6 ?_ (y:=jh)
     clear hG
     refine cO 7 ay ak (fun K hK=>?_)
     refine tV (vs:=slotL dG x) (P0 * 37) hSd ay ay rfl (je dB) (by rw [gW,hrl];omega) (by rw [gW];kernel_rfl) (mY dG x (I4 _)) ?_
     intro w12 iH
     refine hK _ _ (.inl rfl) ?_
     clear hK hSd
     refine dO ak ?_
     try simp only [jZ]
     try go_frame
     rw [← wG.out]at iH
     go_wp2_with fail
     go_roundg (t.slots.length - (i+1))
     case measure=>have:=bY.out;omega
     case rel=>exact ⟨i+1,_,rfl,bY.out,by first|rfl|go_num,wH.out,by rw [ag4];exact gB.out,iH.sb⟩
end
theorem aj3 (k:ah.Bs) (hk:k.length=32) (v:Rep.gY) (w:World) :
  (Instr.build 266 #[(0,.int .i64 1),(1,.agg (aA k).toArray),(2,.agg (dG v).toArray)]).run Tryz.prog w = .ok (.agg (slotL dG ⟨1,k,v⟩).toArray) w:=by
 have hbk:(aA k).toArray.size=32:=by rw [abL,aZ,hk]
 refine (anu (P:=Tryz.prog) [(0,.int .i64 1),(1,.agg (aA k).toArray),(2,.agg (dG v).toArray)] aiv Df (by
  intro p' hp
  simp only [ab5,ag3,anz]at hp
  have hzz:(Value.agg (slotL dG (⟨0,ah.zero32,ny⟩:Tab.Slot (Rep.gY))).toArray).cells.size=37:=by
   show (slotL dG (⟨0,ah.zero32,ny⟩:Tab.Slot (Rep.gY))).toArray.size=37
   rw [abL,ji dG _ aN 4 rfl]
  rw [hzz]
  rcases hp with rfl|rfl|rfl
  ·exact ⟨0,rfl,by show 0+1≤37;omega⟩
  ·refine ⟨1,?_,?_⟩
   ·show some (1,32)=some (1,(aA k).toArray.size);rw [hbk]
   ·show 1+(aA k).toArray.size≤37;omega
  ·exact ⟨33,rfl,by show 33+4≤37;omega⟩) w).trans ?_
 rw [show (Value.agg (slotL dG (⟨0,ah.zero32,ny⟩:Tab.Slot (Rep.gY))).toArray).cells=(slotL dG (⟨0,ah.zero32,ny⟩:Tab.Slot (Rep.gY))).toArray from rfl,PY dG ⟨0,ah.zero32,ny⟩ k v aN hk rfl 4 rfl]
section
variable {w0 w:World}{F R:List aH}{p B:Nat}{sv:Value}{k:ah.Bs}{m:ah.Bs→Option (Rep.gY)}
set_option maxRecDepth 20000 in
theorem aiH (hB:B≤134217000) (hk:k.length=32) (v:Rep.gY) (h:Sat w0 w (dF p m B::F)) :
  Calls Tryz.prog 163 #[ptr p,.agg (aA k).toArray,.agg (dG v).toArray] w (aP fun _ w'=>Sat w0 w' (dF p (Tab.put m k v) (B+1)::F)):=by
 obtain ⟨t,sv,⟨ok,is,hb⟩,hR⟩:=dF.open h
 obtain ⟨d,he⟩:=ok.ends k
 have hsz:t.slots.length≤1073741824:=by have:=ok.size;omega
 have Hlen:=uQ (show ∀ x∈t.slots,(slotL dG x).length=37 from fun x hx=>ji dG x (ok.good.key x hx) 4 (BJ _))
 obtain ⟨la,lc,rfl⟩:=jI Hlen.out (Sat.rd (hR.pick aX)) aN
 have hrl:0<(t.slots.flatMap (slotL dG)).length:=by rw [jd Hlen.out];have:=ok.good.jB;omega
 obtain ⟨bk,rfl⟩:=zN (hR.pick aX) hrl
 have Hk:=uQ hk;have dA:=uQ ok;have iM:=uQ is;have Hb:=uQ hb;have He:=uQ he;have gZ:=uQ hsz;have HB:=uQ hB
 have jo:=uQ ok.good.jB
 have qh:=uQ (show (aA k).length=32 by rw [aZ,hk])
 clear h hk ok is hb he hsz hB hrl
 go_enter Tryz.func163,Tryz.ntmps163
 go_wp2_with (with_reducible apply fO)
 refine ⟨fU hR ay ay ?_⟩
 intro b4 w4 hS4
 go_wp2_with (with_reducible apply fO)
 refine ⟨fU hS4 ay ay ?_⟩
 intro b5 w5 hS5
 have hA:Sat w0 w5 (fG p 262 (.slice (some ⟨bk,0,none⟩) t.slots.length lc) t.n t.gone::aB 266 37 (.slice (some ⟨bk,0,none⟩) t.slots.length lc) (t.slots.flatMap (slotL dG))::pt b4 (.cells (aA k).toArray 50 (0,0))::pt b5 (.cells (dG v).toArray 202 (0,0))::F):=hS5.sb
 clear hR hS4 hS5
 go_wp2_with fail
 refine (Py jo.out hA).mono ?_
 rintro ee w7 ⟨v',rfl,rfl,rfl⟩
 go_wp2_with ((with_reducible refine bP ⟨?_⟩);refine iU hA aj (aS (aS (aV (A:=pt b4 (.cells (aA k).toArray 50 (0,0)))))) Tryz.underlying50 rfl (by rw [abL,qh.out];kernel_rfl) ?_)
 have hf:=Eh dA.out.good gZ.out Hk.out He.out hA
 clear hA
 refine hf.mono ?_
 rintro ee w8 ⟨v',rfl,x,hx,rfl,jA⟩
 clear hf
 have hlt:=Tab.lM (k:=k) (d:=d) jo.out
 by_cases h1:x.st=1
 ·have hd:decide (x.st=1)=true:=acT h1
  have hxm:=abn hx
  have nY:=uQ (Fp (f:=slotL dG) (k:=37) (o:=33) (x':=⟨x.st,x.key,v⟩) (vs:=dG v) Hlen.out hx (QM dG x v (dA.out.good.key x hxm) rfl) (by show 33+4≤37;decide))
  have lF:=uQ (Tab.PX dA.out He.out hx h1 v)
  have oJ:=uQ (Tab.BI iM.out (Tab.Jr dA.out.good He.out hx h1 v).2 t.n t.gone)
  have hrl:(t.slots.flatMap (slotL dG)).length=37 * t.slots.length:=jd Hlen.out
  clear hx hxm h1
  generalize Tab.pos k t.slots.length d=P0 at *
  have c0:(0:Int)≤(P0:Int):=oQ
  have c1:(P0:Int)<(t.slots.length:Int):=oQ
  go_wp2_with fail
  have hSd:=jA.drew
  clear jA
  refine dU [6,7,8] (fun w'=>w'.cell? ⟨p,0,none⟩=some (.slice (some ⟨bk,0,none⟩) t.slots.length lc)∧w'.rangeAt b5 0 (dG v)) ak ?_
  have hG:World.cell? _ ⟨p,0,none⟩=some (.slice (some ⟨bk,0,none⟩) t.slots.length lc)∧World.rangeAt _ b5 0 (dG v):=⟨hSd.cellP bF 0 rfl,oH (hSd.pk (A:=pt b5 (.cells (dG v).toArray 202 (0,0))))⟩
  refine rP 0 ?_ (y:=bf)
  refine rP 1 ?_ (y:=dS)
  refine rP 2 ?_ (y:=bU)
  refine rt 3 (h:=?_)
  refine rP 4 ?_ (y:=bf)
  refine ig 5 ay ak fE (iT (b:=b5) (o:=0) (dG v) aj Tryz.underlying202 rfl ak (fun w hw=>hw.2)) aQ gQ ?_
  refine rP 6 ?_ (y:=jh)
  refine rP 7 ?_ (y:=bU)
  clear hG
  refine cO 8 ay ak (fun K hK=>?_)
  refine tV (vs:=dG v) (P0 * 37+33) hSd ay ay rfl (je dB) (by rw [hrl];show P0 * 37+33+4≤_;omega) ak aj ?_
  intro w12 iH
  refine hK _ _ (.inl rfl) ?_
  clear hK hSd
  refine dO ak ?_
  try simp only [jZ]
  try go_frame
  rw [← nY.out]at iH
  go_wp2_with fail
  go_end0
  exact ⟨_,rfl,dF.shut (sv:= .slice (some ⟨bk,0,none⟩) t.slots.length lc) lF.out oJ.out (Nat.le_succ_of_le Hb.out) (iH.sb)⟩
 have hd:decide (x.st=1)=false:=acu h1
 have hb4:=Hb.out
 have hB4:=HB.out
 have xK:=gZ.out
 obtain ⟨hA1,hA2,hA3,xF,xB,xC,xE,xG,xH⟩:=RY t.n t.gone t.slots.length oQ xK
 have Hx:=uQ hx;have H1:=uQ h1
 clear hx h1 hb4 hB4 xK
 go_wp2_with fail
 have hSd:=jA.drew
 clear jA
 have e0:World.cell? _ ⟨p,0,none⟩=some (.slice (some ⟨bk,0,none⟩) t.slots.length lc):=hSd.cellP bF 0 rfl
 have e1:World.cell? _ ⟨p,1,none⟩=some (.int .i64 t.n):=hSd.cellP bF 1 rfl
 have e2:World.cell? _ ⟨p,2,none⟩=some (.int .i64 t.gone):=hSd.cellP bF 2 rfl
 go_region
 have hcmp:3 * t.slots.length<4 * (t.n+t.gone+1)∨4 * (t.n+t.gone+1)≤3 * t.slots.length:=oQ
 rcases hcmp with hcmp|hcmp
 focus
  have hci:(3:Int) * (t.slots.length:Int)<4 * ((t.n:Int)+(t.gone:Int)+1):=oQ
  have hrn:=ai8 (N:=t.n+1) dA.out (ahp _) (by have:=Hb.out;have:=HB.out;omega) gZ.out hSd
  rw [show (((t.n+1:Nat)):Int)=(t.n:Int)+1 by omega]at hrn
  clear hSd e0 e2
  go_wp2_with fail
  refine hrn.mono ?_
  rintro ee w9 ⟨v',rfl,s',sv',nN,iW⟩
  clear hrn e1 hci hcmp
  have hok1:=nN.ok
  have rO:=nN.is iM.out t.n 0
  have rU:4 * ((⟨s',t.n,0⟩:Tab.Tb (Rep.gY)).n+(⟨s',t.n,0⟩:Tab.Tb (Rep.gY)).gone+1)≤3 * (⟨s',t.n,0⟩:Tab.Tb (Rep.gY)).slots.length:=by have:=nN.lo;simp only;omega
  have hb1:(⟨s',t.n,0⟩:Tab.Tb (Rep.gY)).n+(⟨s',t.n,0⟩:Tab.Tb (Rep.gY)).gone≤B:=by have:=Hb.out;simp only;omega
  have dN:Sat w0 w9 (fG p 262 sv' (⟨s',t.n,0⟩:Tab.Tb (Rep.gY)).n (⟨s',t.n,0⟩:Tab.Tb (Rep.gY)).gone::aB 266 37 sv' ((⟨s',t.n,0⟩:Tab.Tb (Rep.gY)).slots.flatMap (slotL dG))::pt b4 (.cells (aA k).toArray 50 (0,0))::pt b5 (.cells (dG v).toArray 202 (0,0))::F):=iW
  clear iW nN hA1 hA2 hA3 xF xB xC xE xG xH
  generalize (⟨s',t.n,0⟩:Tab.Tb (Rep.gY))=t1 at hok1 rO rU hb1 dN
  have pz:=uQ (show ∀ x∈t1.slots,(slotL dG x).length=37 from fun x hx=>ji dG x (hok1.good.key x hx) 4 (BJ _))
  obtain ⟨EJ,pI,rfl⟩:=jI pz.out (Sat.rd (dN.pick aX)) aN
  have jK:=uQ hok1;have o9:=uQ rO;have rD:=uQ rU;have Hb1:=uQ hb1
  obtain ⟨d1,he1⟩:=hok1.ends k
  have kK:=uQ he1
  have hno:m k=none:=by
   obtain ⟨_,q2⟩:=iM.out.some dA.out He.out Hx.out
   exact q2 H1.out
  have hsz1:t1.slots.length≤1073741824:=by have:=hok1.size;have:=HB.out;omega
  clear hok1 rO rU hb1 he1
  go_wp2_with ((with_reducible refine bP ⟨?_⟩);refine iU dN aj (aS (aS (aV (A:=pt b4 (.cells (aA k).toArray 50 (0,0)))))) Tryz.underlying50 rfl (by rw [abL,qh.out];kernel_rfl) ?_)
  have hf:=Eh jK.out.good hsz1 Hk.out kK.out dN
  clear dN hsz1
  refine hf.mono ?_
  rintro ee w8b ⟨v',rfl,x1,hx1,rfl,hT⟩
  have nD:=uQ hx1
  have o8:=uQ (show x1.st≠1 from fun h=>by
   have:=(o9.out.some jK.out kK.out hx1).1 h
   rw [hno]at this;cases this)
  clear hf hx1 hno Hx H1 He dA iM Hlen jo Hb gZ hlt hd
  go_wp2_with fail
 rotate_left
 focus
  have hci:¬ (3:Int) * (t.slots.length:Int)<4 * ((t.n:Int)+(t.gone:Int)+1):=oQ
  have rD:=uQ hcmp
  clear e0 e1 e2 hcmp
  go_wp2_with fail
  clear hci hA1 hA2 hA3 xF xB xC xE xG xH hlt hd jo gZ
  obtain ⟨t1,rfl⟩:∃ y,y=t:=⟨t,rfl⟩
  obtain ⟨x1,rfl⟩:∃ y,y=x:=⟨x,rfl⟩
  obtain ⟨d1,rfl⟩:∃ y,y=d:=⟨d,rfl⟩
  obtain ⟨EJ,xJ⟩:∃ y:Option Addr,y=some ⟨bk,0,none⟩:=⟨_,rfl⟩
  obtain ⟨pI,rfl⟩:∃ y,y=lc:=⟨lc,rfl⟩
  rw [← xJ]at hSd
  have hT:=hSd
  have jK:=uQ dA.out;have o9:=uQ iM.out;have Hb1:=uQ Hb.out;have kK:=uQ He.out;have nD:=uQ Hx.out;have o8:=uQ H1.out;have pz:=uQ Hlen.out
  clear hSd dA iM Hb He Hx H1 Hlen xJ
 all_goals
  have hrl:(t1.slots.flatMap (slotL dG)).length=37 * t1.slots.length:=jd pz.out
  obtain ⟨bk1,rfl⟩:=zN (hT.pick aX) (by rw [hrl];have:=jK.out.good.jB;omega)
  have nY:=uQ (yh (f:=slotL dG) (k:=37) (i:=Tab.pos k t1.slots.length d1) (x:=⟨1,k,v⟩) pz.out (ji dG _ Hk.out 4 rfl) (Tab.lM jK.out.good.jB))
  have lF:=uQ (Tab.PW jK.out rD.out kK.out nD.out o8.out Hk.out v)
  have oJ:=uQ (Tab.BI o9.out (Tab.zS jK.out.good kK.out nD.out o8.out Hk.out v).2 (t1.n+1) t1.gone)
  have hlt1:=Tab.lM (k:=k) (d:=d1) jK.out.good.jB
  have hls:=ji dG (⟨1,k,v⟩:Tab.Slot (Rep.gY)) Hk.out 4 rfl
  have hwn:IntKind.i64.wrap ((t1.n:Int)+1)=(t1.n:Int)+1:=abX _ (by have:=Hb1.out;have:=HB.out;omega)
  clear nD o8 kK jK o9 rD
  generalize Tab.pos k t1.slots.length d1=P1 at *
  have c0:(0:Int)≤(P1:Int):=oQ
  have c1:(P1:Int)<(t1.slots.length:Int):=oQ
  have hSd:=hT.drew
  clear hT
  refine dU [8,9] (fun w'=>w'.cell? ⟨p,0,none⟩=some (.slice (some ⟨bk1,0,none⟩) t1.slots.length pI)∧w'.rangeAt b4 0 (aA k)∧w'.rangeAt b5 0 (dG v)) ak ?_
  have hG:World.cell? _ ⟨p,0,none⟩=some (.slice (some ⟨bk1,0,none⟩) t1.slots.length pI)∧World.rangeAt _ b4 0 (aA k)∧World.rangeAt _ b5 0 (dG v):=⟨hSd.cellP bF 0 rfl,oH (hSd.pk (A:=pt b4 (.cells (aA k).toArray 50 (0,0)))),oH (hSd.pk (A:=pt b5 (.cells (dG v).toArray 202 (0,0))))⟩
  refine rP 0 ?_ (y:=bf)
  refine rP 1 ?_ (y:=dS)
  refine rP 2 ?_ (y:=bU)
  refine rt 3 (h:=?_)
  refine rP 4 ?_ (y:=bf)
  refine ig 5 ay ak fE (iT (b:=b4) (o:=0) (aA k) aj Tryz.underlying50 rfl (by rw [qh.out];kernel_rfl) (fun w hw=>hw.2.1)) aQ gQ ?_
  refine ig 6 ay ak fE (iT (b:=b5) (o:=0) (dG v) aj Tryz.underlying202 rfl ak (fun w hw=>hw.2.2)) aQ gQ ?_
  refine rP 7 ?_ (y:=(FZ ay ay ay (fun w=>aj3 k Hk.out v w)))
  refine rP 8 ?_ (y:=jh)
  clear hG
  refine cO 9 ay ak (fun K hK=>?_)
  refine tV (vs:=slotL dG ⟨1,k,v⟩) (P1 * 37) hSd ay ay rfl (je dB) (by rw [hrl,hls];omega) (by rw [hls];kernel_rfl) (mY dG _ aj) ?_
  intro w12 iH
  refine hK _ _ (.inl rfl) ?_
  clear hK hSd
  refine dO ak ?_
  try simp only [jZ]
  try go_frame
  rw [← nY.out]at iH
  go_wp2_with (first
   |((with_reducible refine bP ⟨?_⟩);refine gq iH aj bF bJ ay ak ?_)
   |((with_reducible refine bZ ⟨?_⟩);refine fD aQ aj ay pQ fP bJ ak aj ?_;intro wS hS))
  go_end0
  exact ⟨_,rfl,dF.shut (sv:= .slice (some ⟨bk1,0,none⟩) t1.slots.length pI) lF.out oJ.out (by have:=Hb1.out;simp only;omega) (hS.sb)⟩
end
section
variable {P:Program}{w0 w:World}{L R:List aH}{ops:Array Oper}{rest:List Oper}{a:Act}{Q:Exit→Act→World→Prop}{dst:Option Tmp}{t ty e:TypeId}{pos:String}{after:Array Edge}{x y s:Operand}{sz fA:Nat}{v v1:Value}
theorem ajZ (hb:oL P t e sz fA=true) (w:World):(Instr.buildSlice t 0 #[]).run P w = .ok (.slice (some ⟨w.heap.size,0,none⟩) 0 0) (w.alloc (.cells #[] e)):=by
 obtain ⟨hu,i,z,hi,hz,e1,e2,e3,e4⟩:=wP hb
 have hsz':(sizeOf e).run P w = .ok i.size w:=by simp [sizeOf,typeInfo,hi]
 have hf:Instr.fill (fun i'=>some (i' * i.size,i.size)) ((Array.range 0).map ((#[]:Array Value)[· % (#[]:Array Value).size]!)) []=some #[]:=by unfold Instr.fill;simp
 unfold Instr.buildSlice
 simp only [ach,agV hu,abW,hsz',Nat.zero_mul,abk (show ¬ (0>2^24) by omega)]
 simp [newRow,go_sem]
theorem MH (h:Stop (wpList P ops Q (⟨dst,.buildSlice ty 0 #[],t,pos,after,none⟩::rest) a w)):wpList P ops Q (⟨dst,.buildSlice ty 0 #[],t,pos,after,none⟩::rest) a w:=h.out
theorem RI (hb:oL P ty e sz fA=true) (hs:Sat w0 w L)
  (hK:∀ b w',Sat w0 w' (aB e sz (.slice (some ⟨b,0,none⟩) 0 0) []::L)→wpList P ops Q rest (a.put dst (.slice (some ⟨b,0,none⟩) 0 0)) w'):wpList P ops Q (⟨dst,.buildSlice ty 0 #[],t,pos,after,none⟩::rest) a w:=by
 refine afZ rfl fun _ hK'=>?_
 have hS:=hs.alloc (.cells #[] e)
 unfold Oper.wp execOp
 simp only [agh,acZ,ach,acy,ajZ hb w,abW]
 exact hK' _ _ (hK _ _ (Sat.kR hS (by simp) (abm _) (by simp) aN (by simp)))
end
section
variable {w0 w:World}{F:List aH}{p b n c B:Nat}{m:ah.Bs→Option Seg.aU}{xs:List Value}
set_option maxRecDepth 20000 in
theorem ad9 (h1:∀ u∈xs,u.oneCell'=true) (hl:xs.length≤2147483648) (h:Sat w0 w (aB 164 36 (.slice (some ⟨b,0,none⟩) n c) xs::F)) :
  Calls Tryz.prog 87 #[.slice (some ⟨b,0,none⟩) n c] w (aP fun v w'=>Sat w0 w' (aB 164 36 v xs::aB 164 36 (.slice (some ⟨b,0,none⟩) n c) xs::F)):=by
 have H1:=uQ h1;have Hl:=uQ hl
 have he:∀ w,(binOp .eql 161 (.slice (some ⟨b,0,none⟩) n c) (.slice none 0 0)).run Tryz.prog w = .ok (.bool false) w:=fun w=>by first|kernel_rfl|rfl
 clear h1 hl
 go_enter Tryz.func87,Tryz.ntmps87
 go_wp2_with (first
  |((with_reducible refine MH ⟨?_⟩);refine RI (e:=164) (sz:=36) (fA:=64) ak h ?_;intro bN wN hN)
  |(with_reducible apply nG))
 refine ⟨RD 164 36 64 ak hN aj aj aV (Sat.rd hN.drop) H1.out (by have:=Hl.out;simp only [adU];omega) aN ?_⟩
 intro v' w' hS
 rw [acS]at hS
 go_wp2_with fail
 go_ret
 exact ⟨_,rfl,hS⟩
theorem akG (s:List (Tab.Slot Seg.aU)):∀ u∈s.flatMap (slotL aT),u.oneCell'=true:=fun u hu=>by
 obtain ⟨x,_,hx⟩:=aht.1 hu
 have:=(af0.1 (mY aT x (vP _))) u hx
 exact this
set_option maxRecDepth 20000 in
theorem Nb (hB:B≤14000000) (h:Sat w0 w (aJ p m B::F)) :
  Calls Tryz.prog 43 #[ptr p] w (aP fun v w'=>∃ q,v=ptr q∧Sat w0 w' (aJ q m B::aJ p m B::F)):=by
 obtain ⟨t,sv,⟨ok,is,hb⟩,hR⟩:=aJ.open h
 have hsz:t.slots.length≤56000008:=by have:=ok.size;omega
 have Hlen:=uQ (show ∀ x∈t.slots,(slotL aT x).length=36 from fun x hx=>ji aT x (ok.good.key x hx) 3 (su _))
 have jo:=uQ ok.good.jB
 have TU:=uQ (show (t.slots.flatMap (slotL aT)).length=t.slots.length * 36 from (jd Hlen.out).trans (ag6 _ _))
 obtain ⟨la,lc,rfl⟩:=jI Hlen.out (Sat.rd (hR.pick aX)) aN
 obtain ⟨bs,rfl⟩:∃ bs,la=some ⟨bs,0,none⟩:=by
  rcases Sat.kP (hR.pick aX) with ⟨_,he,_⟩|⟨b,n,cap,cs,he,_⟩
  ·have:=acX List.length he
   have:=TU.out
   have:=jo.out
   simp only [adU]at *;omega
  ·cases he;exact ⟨b,rfl⟩
 have hok:=BQ jo.out hR
 have dA:=uQ ok;have iM:=uQ is;have Hb:=uQ hb;have gZ:=uQ hsz
 clear h ok is hb hsz hB
 go_enter Tryz.func43,Tryz.ntmps43
 go_wp2_with fail
 refine hok.mono ?_
 rintro ee w1 ⟨v,rfl,rfl,rfl⟩
 clear hok
 go_wp2_with fail
 have hR1:=hR.drew
 clear hR
 refine dU [13,14,15] (fun w'=>w'.cell? ⟨p,0,none⟩=some (.slice (some ⟨bs,0,none⟩) t.slots.length lc)∧w'.cell? ⟨p,1,none⟩=some (.int .i64 t.n)∧w'.cell? ⟨p,2,none⟩=some (.int .i64 t.gone)) ak ?_
 have hG:World.cell? _ ⟨p,0,none⟩=some (.slice (some ⟨bs,0,none⟩) t.slots.length lc)∧World.cell? _ ⟨p,1,none⟩=some (.int .i64 t.n)∧World.cell? _ ⟨p,2,none⟩=some (.int .i64 t.gone):=⟨hR1.cellAt 0 _ rfl,hR1.cellAt 1 _ rfl,hR1.cellAt 2 _ rfl⟩
 refine rP 0 ?_ (y:=bf)
 refine rP 1 ?_ (y:=dS)
 refine rP 2 ?_ (y:=bU)
 refine rt 3 (h:=?_)
 refine rP 5 ?_ (y:=bf)
 refine rP 6 ?_ (y:=dS)
 refine rP 7 ?_ (y:=bU)
 refine rt 8 (h:=?_)
 refine rP 9 ?_ (y:=bf)
 refine rP 10 ?_ (y:=dS)
 refine rP 11 ?_ (y:=bU)
 refine rt 12 (h:=?_)
 clear hG
 refine cO 4 ay ak (fun K hK=>?_)
 (refine pG ak ay ?_)
 refine (ad9 (akG _) (by rw [TU.out];have:=gZ.out;omega) (hR1.sb:Sat w0 _ (aB 164 36 (.slice (some ⟨bs,0,none⟩) t.slots.length lc) (t.slots.flatMap (slotL aT))::fG p 166 (.slice (some ⟨bs,0,none⟩) t.slots.length lc) t.n t.gone::F))).mono ?_
 rintro ee w2 ⟨v,rfl,h2⟩
 refine hK _ _ (.inr (.inl ⟨h2.cellP eX 0 rfl,h2.cellP eX 1 rfl,h2.cellP eX 2 rfl⟩)) ?_
 clear hK hR1
 obtain ⟨a2,c2,rfl⟩:=jI Hlen.out (Sat.rd h2) aN
 refine rp 13 (hy:=(by (refine Or.inl ⟨by rfl,?_⟩;((intro wq;go_simp);first|done|exact wQ)))) (h:=?_)
 refine cO 14 ay ak (fun K hK=>?_)
 refine Ik (cs:=#[.slice a2 t.slots.length c2,.int .i64 t.n,.int .i64 t.gone]) h2 ay ay ?_
 intro q w3 h3
 refine hK _ _ (.inl rfl) ?_
 clear hK h2
 refine rP 15 ?_ (y:=gV)
 refine dO ak ?_
 try simp only [jZ]
 try go_frame
 go_wp2_with fail
 go_ret
 have h4:=aJ.shut dA.out iM.out Hb.out (h3.sb:Sat w0 w3 (fG p 166 (.slice (some ⟨bs,0,none⟩) t.slots.length lc) t.n t.gone::aB 164 36 (.slice (some ⟨bs,0,none⟩) t.slots.length lc) (t.slots.flatMap (slotL aT))::fG q 166 (.slice a2 t.slots.length c2) t.n t.gone::aB 164 36 (.slice a2 t.slots.length c2) (t.slots.flatMap (slotL aT))::F))
 exact ⟨_,rfl,q,rfl,aJ.shut dA.out iM.out Hb.out (h4.sb)⟩
end
section
variable {P:Program}{w0 w:World}{F:List aH}{ops:Array Oper}{rest:List Oper}{a:Act}{Q:Exit→Act→World→Prop}{dst:Option Tmp}{t ty:TypeId}{pos:String}{after:Array Edge}{x:Operand}{v vy:Value}
end
section
variable {w0 w:World}{F:List aH}{rv lv bv:Value}{p:Nat}
abbrev amS (b:Nat) (k:ah.Bs) (ns:List Int) (nv:Value):aH:=pt b (.cells (fB ⟨⟨k,ns⟩,nv⟩).toArray 221 (0,0))
abbrev amK (b:Nat) (mg:ByteArray) (kd:Bool) (k:Nat):aH:=pt b (.cells (ou mg kd k) 213 (0,0))
end
end Go.Proofs.YtihngncbioofnaaGreatDoor
