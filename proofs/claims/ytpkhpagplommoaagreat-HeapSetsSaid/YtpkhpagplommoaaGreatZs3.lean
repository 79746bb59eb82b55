/- Part 3 of the proof that is ended in the last text: small logic, what the functions compute, walks, plain laws. -/
import Derived.Test.YtpkhpagplommoaaGreatZs2
namespace Go.Proofs.YtpkhpagplommoaaGreat
open Go Go.RowKit a2
set_option maxHeartbeats 4000000
set_option maxRecDepth 20000
theorem ace {W:World} {X:List Nat} {F:Nat} {a_:List J.Kind} {b_:List J.Kind} {r:Bool} {ag:aT} {ah:Nat} {aJ:aT} {aQ:Nat} {M0:List Nat} (hm:aw W M0 X W [] [U J.dw ag ah a_,U J.dw aJ aQ b_]) (h:J.tD F a_ b_=some r) :
 Calls Tryz.prog 138 [.q ag ah a_,.q aJ aQ b_].toArray W (fun e aF=>e= .returned (.bool r)/\aw W M0 X aF [] []):=by
 refine enter Tryz.func138 rfl Tryz.ntmps138 rfl fun a I=>?_;rw [J.tD] at h;refine bd [] [] I fun a I=>wp_seq_k fun K bO=>bd [] [(10,.bool (!decide ((a_.length:Int)=(b_.length:Int))))] I fun a I=>bn (I.g rfl) h (fun h7 h=>?_) (fun h7 h=>?_)
 · refine bu [] [(4,.bool false)] I fun a I=>wp_ret ?_;obtain rfl:=aC h;refine al <| bq Tryz.results138 I rfl ?_;exact ⟨rfl,hm.aX [] []⟩
 refine wp_skip <| bO _ _ <| wp_seq_k fun K cn=>bd [] [(5,.i 0)] I fun a I=>?_;obtain ⟨gx,h,gh⟩:=J.ei h;refine cd (fun a w=>Fr ⟨26,[]⟩ [] a/\aw W M0 X w [] [U J.dw ag ah a_,U J.dw aJ aQ b_]/\gx=(.go ())) (fun K dm=>?_) ?_
 · refine cB (fun (bw:Nat) a w=>∃ (ck:Int),Fr ⟨26,[]⟩ [(0,.q ag ah a_),(1,.q aJ aQ b_),(5,.i ck)] a/\aw W M0 X w [] [U J.dw ag ah a_,U J.dw aJ aQ b_]/\J.oq a_ b_ bw ck=some gx) F ⟨0,I.cut,hm,h⟩ ?_ ?_
   · rintro a w ⟨ck,I,hm,h⟩;exact absurd h (by simp [J.oq])
   rintro bw a w ⟨ck,I,hm,h⟩ K cM;rw [J.oq] at h;refine wp_seq_k fun K dj=>bd [] [(14,.bool (decide (ck <(a_.length:Int))))] I fun a I=>bn (I.g rfl) h (fun mN h=>?_) (fun mN h=>?_)
   · refine wp_skip <| dj _ _ <| wp_seq_k fun K dy=>wp_block <| wp_seq_k fun K dO=>h5 (by kernel_rfl) (by kernel_rfl) <| dQ 2 [] [(17,.q ag ah a_),(18,.i ck)] [] (fun a5 ad=>ax) I fun a I=>?_;obtain ⟨fi,mX,h⟩:=J.aI h;obtain ⟨mG,mT,_,rfl,mO⟩:=b3 _ (hm.d 0 rfl) mX;refine eK wn (fun a5 ad=>bI Tryz.underlying130 Tryz.sizeOf103 rfl (I.g rfl) (I.g rfl) mG mT) I rfl rfl fun a I=>dQ 3 [0,0] [(20,.agg #[.i fi.Kind,ao fi.aO]),(21,.q aJ aQ b_),(22,.i ck)] [bG ag,bH ag+(ck).toNat* 2] (fun a5 ad=>(ay (b6 ad mO) ax)) I fun a I=>?_;obtain ⟨fs,mY,h⟩:=J.aI h
     obtain ⟨mH,mU,_,rfl,mP⟩:=b3 _ (hm.d 1 rfl) mY;refine eK wn (fun a5 ad=>bI Tryz.underlying130 Tryz.sizeOf103 rfl (I.g rfl) (I.g rfl) mH mU) I rfl rfl fun a I=>dQ 1 [0,0] [(24,.agg #[.i fs.Kind,ao fs.aO])] [bG aJ,bH aJ+(ck).toNat* 2] (fun a5 ad=>(ay (b6 ad mP) ax)) I fun a I=>eK wn (fun a5 ad=>Gj (X:=fi) (Y:=fs) rfl (I.g rfl) (I.g rfl)) I rfl rfl fun a I=>wpQuiet_nil fun w ad=>?_;have hm:=hm.dz ad;clear ad;refine dO _ _ <| bn (I.g rfl) h (fun lj h=>?_) (fun lj h=>?_)
     · refine bu [] [(4,.bool false)] I fun a I=>wp_ret ?_;obtain rfl:=aC h;obtain rfl:=aC gh;refine a' (al (al (a' (al (al ?_)))));refine bq Tryz.results138 I rfl ?_;exact ⟨rfl,hm.aX [] []⟩
     refine wp_skip <| dy _ _ <| cg [] [(5,.i (J.av (ck+ 1)))] I fun a I=>?_;exact cM _ _ ⟨J.av (ck+ 1),I.cut,hm,h⟩
   refine wp_exit <| bC (bC (cv ?_));exact dm _ _ ⟨I.cut,hm,(os h)⟩
 rintro a w ⟨I,hm,bb⟩;subst gx;have h:=gh;clear gh;dsimp only [J.ec] at h;refine cn _ _ <| bu [] [(4,.bool true)] I fun a I=>wp_ret ?_;obtain rfl:=aC h;refine bq Tryz.results138 I rfl ?_;exact ⟨rfl,hm.aX [] []⟩
theorem acb {W:World} {X:List Nat} {F:Nat} {a_:List J.Field} {b_:List J.Field} {r:Bool} {ag:aT} {ah:Nat} {aJ:aT} {aQ:Nat} {M0:List Nat} (hm:aw W M0 X W [] [U J.aW ag ah a_,U J.aW aJ aQ b_]) (h:J.B' F a_ b_=some r) :
 Calls Tryz.prog 114 [.q ag ah a_,.q aJ aQ b_].toArray W (fun e aF=>e= .returned (.bool r)/\aw W M0 X aF [] []):=by
 refine enter Tryz.func114 rfl Tryz.ntmps114 rfl fun a I=>?_;rw [J.B'] at h;refine bd [] [] I fun a I=>wp_seq_k fun K bO=>bd [] [(10,.bool (!decide ((a_.length:Int)=(b_.length:Int))))] I fun a I=>bn (I.g rfl) h (fun h7 h=>?_) (fun h7 h=>?_)
 · refine bu [] [(4,.bool false)] I fun a I=>wp_ret ?_;obtain rfl:=aC h;refine al <| bq Tryz.results114 I rfl ?_;exact ⟨rfl,hm.aX [] []⟩
 refine wp_skip <| bO _ _ <| wp_seq_k fun K cn=>bd [] [(5,.i 0)] I fun a I=>?_;obtain ⟨gx,h,gh⟩:=J.ei h;refine cd (fun a w=>Fr ⟨26,[]⟩ [] a/\aw W M0 X w [] [U J.aW ag ah a_,U J.aW aJ aQ b_]/\gx=(.go ())) (fun K dm=>?_) ?_
 · refine cB (fun (bw:Nat) a w=>∃ (ck:Int),Fr ⟨26,[]⟩ [(0,.q ag ah a_),(1,.q aJ aQ b_),(5,.i ck)] a/\aw W M0 X w [] [U J.aW ag ah a_,U J.aW aJ aQ b_]/\J.w5 a_ b_ bw ck=some gx) F ⟨0,I.cut,hm,h⟩ ?_ ?_
   · rintro a w ⟨ck,I,hm,h⟩;exact absurd h (by simp [J.w5])
   rintro bw a w ⟨ck,I,hm,h⟩ K cM;rw [J.w5] at h;refine wp_seq_k fun K dj=>bd [] [(14,.bool (decide (ck <(a_.length:Int))))] I fun a I=>bn (I.g rfl) h (fun mN h=>?_) (fun mN h=>?_)
   · refine wp_skip <| dj _ _ <| wp_seq_k fun K dy=>wp_block <| wp_seq_k fun K dO=>h5 (by kernel_rfl) (by kernel_rfl) <| dQ 2 [] [(17,.q ag ah a_),(18,.i ck)] [] (fun a5 ad=>ax) I fun a I=>?_;obtain ⟨fi,mX,h⟩:=J.aI h;obtain ⟨mG,mT,_,rfl,mO⟩:=b3 _ (hm.d 0 rfl) mX;refine eK wn (fun a5 ad=>bI Tryz.underlying106 Tryz.sizeOf105 rfl (I.g rfl) (I.g rfl) mG mT) I rfl rfl fun a I=>dQ 3 [0,0] [(20,.agg #[ao fi.Name,.i fi.Kind.Kind,ao fi.Kind.aO]),(21,.q aJ aQ b_),(22,.i ck)] [bG ag,bH ag+(ck).toNat* 3] (fun a5 ad=>(ay (b6 ad mO) ax)) I fun a I=>?_;obtain ⟨fs,mY,h⟩:=J.aI h
     obtain ⟨mH,mU,_,rfl,mP⟩:=b3 _ (hm.d 1 rfl) mY;refine eK wn (fun a5 ad=>bI Tryz.underlying106 Tryz.sizeOf105 rfl (I.g rfl) (I.g rfl) mH mU) I rfl rfl fun a I=>dQ 1 [0,0] [(24,.agg #[ao fs.Name,.i fs.Kind.Kind,ao fs.Kind.aO])] [bG aJ,bH aJ+(ck).toNat* 3] (fun a5 ad=>(ay (b6 ad mP) ax)) I fun a I=>eK wn (fun a5 ad=>ac4 (X:=fi) (Y:=fs) rfl (I.g rfl) (I.g rfl)) I rfl rfl fun a I=>wpQuiet_nil fun w ad=>?_;have hm:=hm.dz ad;clear ad;refine dO _ _ <| bn (I.g rfl) h (fun lj h=>?_) (fun lj h=>?_)
     · refine bu [] [(4,.bool false)] I fun a I=>wp_ret ?_;obtain rfl:=aC h;obtain rfl:=aC gh;refine a' (al (al (a' (al (al ?_)))));refine bq Tryz.results114 I rfl ?_;exact ⟨rfl,hm.aX [] []⟩
     refine wp_skip <| dy _ _ <| cg [] [(5,.i (J.av (ck+ 1)))] I fun a I=>?_;exact cM _ _ ⟨J.av (ck+ 1),I.cut,hm,h⟩
   refine wp_exit <| bC (bC (cv ?_));exact dm _ _ ⟨I.cut,hm,(os h)⟩
 rintro a w ⟨I,hm,bb⟩;subst gx;have h:=gh;clear gh;dsimp only [J.ec] at h;refine cn _ _ <| bu [] [(4,.bool true)] I fun a I=>wp_ret ?_;obtain rfl:=aC h;refine bq Tryz.results114 I rfl ?_;exact ⟨rfl,hm.aX [] []⟩
theorem ajE {W:World} {X:List Nat} {F:Nat} {a_:List J.aO} {b_:List J.aO} {r:Bool} {ag:aT} {ah:Nat} {aJ:aT} {aQ:Nat} {M0:List Nat} (hm:aw W M0 X W [] [U J.bc ag ah a_,U J.bc aJ aQ b_]) (h:J.B_ F a_ b_=some r) :
 Calls Tryz.prog 113 [.q ag ah a_,.q aJ aQ b_].toArray W (fun e aF=>e= .returned (.bool r)/\aw W M0 X aF [] []):=by
 refine enter Tryz.func113 rfl Tryz.ntmps113 rfl fun a I=>?_;rw [J.B_] at h;refine bd [] [] I fun a I=>wp_seq_k fun K bO=>bd [] [(16,.bool (!decide ((a_.length:Int)=(b_.length:Int))))] I fun a I=>bn (I.g rfl) h (fun h7 h=>?_) (fun h7 h=>?_)
 · refine bu [] [(4,.bool false)] I fun a I=>wp_ret ?_;obtain rfl:=aC h;refine al <| bq Tryz.results113 I rfl ?_;exact ⟨rfl,hm.aX [] []⟩
 refine wp_skip <| bO _ _ <| wp_seq_k fun K cn=>bd [] [(5,.i 0)] I fun a I=>?_;obtain ⟨W0,h,x4⟩:=J.ei h;refine cd (fun a w=>Fr ⟨152,[]⟩ [] a/\aw W M0 X w [] [U J.bc ag ah a_,U J.bc aJ aQ b_]/\W0=(.go ())) (fun K dm=>?_) ?_
 · refine cB (fun (bw:Nat) a w=>∃ (iM:Int),Fr ⟨152,[]⟩ [(0,.q ag ah a_),(1,.q aJ aQ b_),(5,.i iM)] a/\aw W M0 X w [] [U J.bc ag ah a_,U J.bc aJ aQ b_]/\J.w2 F a_ b_ bw iM=some W0) F ⟨0,I.cut,hm,h⟩ ?_ ?_
   · rintro a w ⟨iM,I,hm,h⟩;exact absurd h (by simp [J.w2])
   rintro bw a w ⟨iM,I,hm,h⟩ K cM;rw [J.w2] at h;refine wp_seq_k fun K dj=>bd [] [(20,.bool (decide (iM <(a_.length:Int))))] I fun a I=>bn (I.g rfl) h (fun apX h=>?_) (fun apX h=>?_)
   · refine wp_skip <| dj _ _ <| wp_seq_k fun K dy=>?_;obtain ⟨aff,h,x2⟩:=J.e3 h;refine cd (fun a w=>Fr ⟨152,[]⟩ [(0,.q ag ah a_),(1,.q aJ aQ b_),(5,.i iM)] a/\aw W M0 X w [] [U J.bc ag ah a_,U J.bc aJ aQ b_]/\aff=(.go ())) (fun K dO=>?_) ?_
     · refine wp_seq_k fun K dS=>g1 (m:=12) 12 (a7 []) (by kernel_rfl) rfl fun w ad=>?_;have hm:=hm.dz ad;clear ad;have a8:=hm;have ar:=a7.refl [] w;refine b7 [0,1,4,5] 4 [] [(23,.q ag ah a_),(24,.i iM),(27,.q aJ aQ b_),(28,.i iM)] [] (fun a5 ad=>ax) I ar fun a I=>?_;obtain ⟨eu,aC_,h⟩:=J.aI h;obtain ⟨al9,aw1,_,⟨lH,lO,k4,mx,rfl,adN,adO⟩,asE⟩:=b3 _ (a8.d 0 rfl) aC_;have a8:=a8.more (y:=U J.aW lH lO eu.Fields) adN
       have hm:=hm.more (y:=U J.aW lH lO eu.Fields) adN;have a8:=a8.more (y:=U J.b' k4 mx eu.aU) adO;have hm:=hm.more (y:=U J.b' k4 mx eu.aU) adO;refine eM 2 rfl (by kernel_rfl) wn (fun a5=>bI Tryz.underlying25 Tryz.sizeOf136 rfl (I.g rfl) (I.g rfl) al9 aw1) ar I rfl rfl fun a I=>?_
       refine b7 [3] 1 [0,0] [(26,.agg #[ao eu.Name,ao eu.b2,.q lH lO eu.Fields,.q k4 mx eu.aU])] [bG ag,bH ag+(iM).toNat* 4] (fun a5 ad=>(ay (b6 ad asE) ax)) I ar fun a I=>?_;obtain ⟨eD,aC',h⟩:=J.aI h;obtain ⟨al_,aw2,_,⟨lI,lP,k5,my,rfl,adP,adQ⟩,asF⟩:=b3 _ (a8.d 3 rfl) aC';have a8:=a8.more (y:=U J.aW lI lP eD.Fields) adP;have hm:=hm.more (y:=U J.aW lI lP eD.Fields) adP
       have a8:=a8.more (y:=U J.b' k5 my eD.aU) adQ;have hm:=hm.more (y:=U J.b' k5 my eD.aU) adQ;refine eM 6 rfl (by kernel_rfl) wn (fun a5=>bI Tryz.underlying25 Tryz.sizeOf136 rfl (I.g rfl) (I.g rfl) al_ aw2) ar I rfl rfl fun a I=>b7 [7] 1 [0,0] [(30,.agg #[ao eD.Name,ao eD.b2,.q lI lP eD.Fields,.q k5 my eD.aU])] [bG aJ,bH aJ+(iM).toNat* 4] (fun a5 ad=>(ay (b6 ad asF) ax)) I ar fun a I=>?_
       refine Qy (ci:=[ao [],ao [],.slice none 0 0,.slice none 0 0]) (cj:=[ao [],ao [],.slice none 0 0,.slice none 0 0]) 8 9 rfl rfl (by kernel_rfl) (by kernel_rfl) (by kernel_rfl) (by kernel_rfl) rfl rfl (fun b w=>eL Tryz.zeroValue136 rfl rfl) (fun b w=>eL Tryz.zeroValue136 rfl rfl) I hm rfl rfl rfl rfl rfl (fun a5 h=>eW ar h) fun a lS mC w ad SG SH I hm=>?_;have SG:=Nat.le_trans ar.size SG;have SH:=Nat.le_trans ar.size SH;have ar:=eW ar ad;clear ad;refine cy 10 rfl (by kernel_rfl) (fun _=>ar) <| Ba (vs:=[ao eu.Name,ao eu.b2,.q lH lO eu.Fields,.q k4 mx eu.aU]) 0 hm rfl wn rfl Tryz.sizeOf136 rfl rfl rfl rfl (I.g rfl) (I.g rfl) rfl fun w ad hm=>?_
       have ar:=q9 ar ad SG;clear ad;refine cq <| cy 11 rfl (by kernel_rfl) (fun _=>ar) <| Ba (vs:=[ao eD.Name,ao eD.b2,.q lI lP eD.Fields,.q k5 my eD.aU]) 1 hm rfl wn rfl Tryz.sizeOf136 rfl rfl rfl rfl (I.g rfl) (I.g rfl) rfl fun w ad hm=>?_;have ar:=q9 ar ad SH;clear ad;refine cq <| eU (by kernel_rfl) ?_ (fun _=>ar);clear a8 ar;refine dS _ _ <| wp_seq_k fun K fo=>wp_seq_k fun K fa=>aZ ?_
       refine bf 13 [0,0,1,0,0,0,0,1,0,0,1,1,0,0] [(43,.bool ((!decide (eu.Name=eD.Name)) || (!decide (eu.b2=eD.b2))))] [mC,1,lS,1,mC,0,lS,0] (ay (a1 (hm.e 0 rfl)) (ay (a1 (hm.e 1 rfl)) ax)) I fun a I=>?_;rcases Bool.eq_false_or_eq_true ((!decide (eu.Name=eD.Name)) || (!decide (eu.b2=eD.b2))) with GG | GG
       · have h:=J.c5 GG h;have I:=I.b1 43 rfl GG;refine aN 16 [1,1,1,1,1,1,1,1,1,1,1,1,1,1,1] [(59,.bool true)] I fun a I=>wpList_nil (fa _ _ ?_);refine eJ (I.g rfl) rfl <| bu [] [(4,.bool false)] I fun a I=>wp_ret ?_;obtain rfl:=aC h;obtain rfl:=aC x2;obtain rfl:=aC x4;refine al (a' (al (al (al (a' (al (al ?_)))))));refine bq Tryz.results113 I rfl ?_;exact ⟨rfl,hm.aX [] []⟩
       have h:=J.c4 GG h;have I:=I.b1 43 rfl GG;refine bf 4 [1,1,0,2,1,1,1,2] [(45,.q lH lO eu.Fields),(47,.q lI lP eD.Fields)] [mC,2,lS,2] (ay (a1 (hm.e 0 rfl)) (ay (a1 (hm.e 1 rfl)) ax)) I fun a I=>?_;obtain ⟨XO,aAP,h⟩:=J.aI h;have hc:=hm;refine bR (vs:=[.q lH lO eu.Fields,.q lI lP eD.Fields]) (cS I rfl rfl rfl rfl) rfl Tryz.call114 ⟨(I.g rfl),(I.g rfl),trivial⟩ (acb ((hc.into 0).pick ⟨⟨3,rfl⟩,⟨1,rfl⟩,trivial⟩) aAP) I rfl rfl ?_;rintro _ w ⟨rfl,af⟩;refine ⟨_,rfl,fun a I=>?_⟩;have ad:a7 [] _ w:=af.ev;have hm:=hc.back 0 af
       clear af hc;clear ad;refine bf 11 [1,1,0,0,0,3,0,0,0,1,3,0,0,0] [(59,.bool ((!XO) || (!decide ((eu.aU.length:Int)=(eD.aU.length:Int)))))] [mC,3,lS,3] (ay (a1 (hm.e 0 rfl)) (ay (a1 (hm.e 1 rfl)) ax)) I fun a I=>wpList_nil (fa _ _ ?_);refine bn (I.g rfl) h (fun ap2 h=>?_) (fun ap2 h=>?_)
       · refine bu [] [(4,.bool false)] I fun a I=>wp_ret ?_;obtain rfl:=aC h;obtain rfl:=aC x2;obtain rfl:=aC x4;refine al (a' (al (al (al (a' (al (al ?_)))))));refine bq Tryz.results113 I rfl ?_;exact ⟨rfl,hm.aX [] []⟩
       refine wp_skip <| fo _ _ <| bd [] [(8,.i 0)] I fun a I=>?_;obtain ⟨VO,h,Dc⟩:=J.e3 h
       refine cd (fun a w=>Fr ⟨152,[]⟩ [(0,.q ag ah a_),(1,.q aJ aQ b_),(5,.i iM)] a/\aw W M0 X w [ap.bm lS 136 [ao eu.Name,ao eu.b2,.q lH lO eu.Fields,.q k4 mx eu.aU],ap.bm mC 136 [ao eD.Name,ao eD.b2,.q lI lP eD.Fields,.q k5 my eD.aU]] [U J.b' k5 my eD.aU,U J.aW lI lP eD.Fields,U J.b' k4 mx eu.aU,U J.aW lH lO eu.Fields,U J.bc ag ah a_,U J.bc aJ aQ b_]/\VO=(.go ())) (fun K fN=>?_) ?_
       · refine cB (fun (c7:Nat) a w=>∃ (jY:Int),Fr ⟨152,[]⟩ [(0,.q ag ah a_),(1,.q aJ aQ b_),(5,.i iM),(6,.aK lS),(7,.aK mC),(8,.i jY)] a/\aw W M0 X w [ap.bm lS 136 [ao eu.Name,ao eu.b2,.q lH lO eu.Fields,.q k4 mx eu.aU],ap.bm mC 136 [ao eD.Name,ao eD.b2,.q lI lP eD.Fields,.q k5 my eD.aU]] [U J.b' k5 my eD.aU,U J.aW lI lP eD.Fields,U J.b' k4 mx eu.aU,U J.aW lH lO eu.Fields,U J.bc ag ah a_,U J.bc aJ aQ b_]/\J.w3 F eu eD c7 jY=some VO) F ⟨0,I.cut,hm,h⟩ ?_ ?_
         · rintro a w ⟨jY,I,hm,h⟩;exact absurd h (by simp [J.w3])
         rintro c7 a w ⟨jY,I,hm,h⟩ K fW;rw [J.w3] at h;refine wp_seq_k fun K gv=>wp_seq_k fun K gQ=>eH [0,3] [(64,.bool (decide (jY <(eu.aU.length:Int))))] [lS,3] (ay (a1 (hm.e 0 rfl)) ax) I fun a I=>gQ _ _ <| bn (I.g rfl) h (fun ap7 h=>?_) (fun ap7 h=>?_)
         · refine wp_skip <| gv _ _ <| wp_seq_k fun K hM=>?_;obtain ⟨afh,h,Dd⟩:=J.e3 h
           refine cd (fun a w=>Fr ⟨152,[]⟩ [(0,.q ag ah a_),(1,.q aJ aQ b_),(5,.i iM),(6,.aK lS),(7,.aK mC),(8,.i jY)] a/\aw W M0 X w [ap.bm lS 136 [ao eu.Name,ao eu.b2,.q lH lO eu.Fields,.q k4 mx eu.aU],ap.bm mC 136 [ao eD.Name,ao eD.b2,.q lI lP eD.Fields,.q k5 my eD.aU]] [U J.b' k5 my eD.aU,U J.aW lI lP eD.Fields,U J.b' k4 mx eu.aU,U J.aW lH lO eu.Fields,U J.bc ag ah a_,U J.bc aJ aQ b_]/\afh=(.go ())) (fun K h6=>?_) ?_
           · refine wp_seq_k fun K hA=>g1 (m:=14) 14 (a7 []) (by kernel_rfl) rfl fun w ad=>?_;have hm:=hm.dz ad;clear ad;have a8:=hm;have ar:=a7.refl [] w;refine b7 [0,1,2,5,6,7] 6 [0,3,1,3] [(68,.q k4 mx eu.aU),(69,.i jY),(73,.q k5 my eD.aU),(74,.i jY)] [mC,3,lS,3] (fun a5 ad=>(ay (b6 ad (a1 (a8.e 0 rfl))) (ay (b6 ad (a1 (a8.e 1 rfl))) ax))) I ar fun a I=>?_;obtain ⟨dE,aDe,h⟩:=J.aI h;obtain ⟨amd,aw6,_,⟨r7,sn,qF,tL,rfl,adR,adS⟩,asK⟩:=b3 _ (a8.d 2 rfl) aDe
             have a8:=a8.more (y:=U J.dw r7 sn dE.bK) adR;have hm:=hm.more (y:=U J.dw r7 sn dE.bK) adR;have a8:=a8.more (y:=U J.er qF tL dE.bN) adS;have hm:=hm.more (y:=U J.er qF tL dE.bN) adS;refine eM 3 rfl (by kernel_rfl) wn (fun a5=>bI Tryz.underlying134 Tryz.sizeOf133 rfl (I.g rfl) (I.g rfl) amd aw6) ar I rfl rfl fun a I=>?_
             refine b7 [4] 1 [0,0] [(71,.agg #[ao dE.Name,.bool dE.Static,.q r7 sn dE.bK,.i dE.Returns.Kind,ao dE.Returns.aO,.i dE.cY,.i dE.cX,ao dE.Code,.q qF tL dE.bN])] [bG k4,bH k4+(jY).toNat* 9] (fun a5 ad=>(ay (b6 ad asK) ax)) I ar fun a I=>?_;obtain ⟨dH,aDf,h⟩:=J.aI h;obtain ⟨ame,aw7,_,⟨r8,sp,qG,tM,rfl,adT,adU⟩,asL⟩:=b3 _ (a8.d 2 rfl) aDf;have a8:=a8.more (y:=U J.dw r8 sp dH.bK) adT
             have hm:=hm.more (y:=U J.dw r8 sp dH.bK) adT;have a8:=a8.more (y:=U J.er qG tM dH.bN) adU;have hm:=hm.more (y:=U J.er qG tM dH.bN) adU;refine eM 8 rfl (by kernel_rfl) wn (fun a5=>bI Tryz.underlying134 Tryz.sizeOf133 rfl (I.g rfl) (I.g rfl) ame aw7) ar I rfl rfl fun a I=>?_
             refine b7 [9] 1 [0,0] [(76,.agg #[ao dH.Name,.bool dH.Static,.q r8 sp dH.bK,.i dH.Returns.Kind,ao dH.Returns.aO,.i dH.cY,.i dH.cX,ao dH.Code,.q qG tM dH.bN])] [bG k5,bH k5+(jY).toNat* 9] (fun a5 ad=>(ay (b6 ad asL) ax)) I ar fun a I=>?_
             refine Qy (ci:=[ao [],.bool false,.slice none 0 0,.i 0,ao [],.i 0,.i 0,ao [],.slice none 0 0]) (cj:=[ao [],.bool false,.slice none 0 0,.i 0,ao [],.i 0,.i 0,ao [],.slice none 0 0]) 10 11 rfl rfl (by kernel_rfl) (by kernel_rfl) (by kernel_rfl) (by kernel_rfl) rfl rfl (fun b w=>eL Tryz.zeroValue133 rfl rfl) (fun b w=>eL Tryz.zeroValue133 rfl rfl) I hm rfl rfl rfl rfl rfl (fun a5 h=>eW ar h) fun a nH oK w ad SI SJ I hm=>?_;have SI:=Nat.le_trans ar.size SI;have SJ:=Nat.le_trans ar.size SJ;have ar:=eW ar ad;clear ad;refine cy 12 rfl (by kernel_rfl) (fun _=>ar) ?_
             refine Ba (vs:=[ao dE.Name,.bool dE.Static,.q r7 sn dE.bK,.i dE.Returns.Kind,ao dE.Returns.aO,.i dE.cY,.i dE.cX,ao dE.Code,.q qF tL dE.bN]) 0 hm rfl wn rfl Tryz.sizeOf133 rfl rfl rfl rfl (I.g rfl) (I.g rfl) rfl fun w ad hm=>?_;have ar:=q9 ar ad SI;clear ad;refine cq <| cy 13 rfl (by kernel_rfl) (fun _=>ar) ?_
             refine Ba (vs:=[ao dH.Name,.bool dH.Static,.q r8 sp dH.bK,.i dH.Returns.Kind,ao dH.Returns.aO,.i dH.cY,.i dH.cX,ao dH.Code,.q qG tM dH.bN]) 1 hm rfl wn rfl Tryz.sizeOf133 rfl rfl rfl rfl (I.g rfl) (I.g rfl) rfl fun w ad hm=>?_;have ar:=q9 ar ad SJ;clear ad;refine cq <| eU (by kernel_rfl) ?_ (fun _=>ar);clear a8 ar;refine hA _ _ <| wp_seq_k fun K hB=>wp_seq_k fun K hC=>aZ ?_
             refine bf 13 [0,0,1,0,0,0,0,1,0,0,1,1,0,0] [(89,.bool ((!decide (dE.Name=dH.Name)) || (!(dE.Static == dH.Static))))] [oK,1,nH,1,oK,0,nH,0] (ay (a1 (hm.e 0 rfl)) (ay (a1 (hm.e 1 rfl)) ax)) I fun a I=>?_;rcases Bool.eq_false_or_eq_true ((!decide (dE.Name=dH.Name)) || (!(dE.Static == dH.Static))) with GI | GI
             · have h:=J.c5 GI h;have I:=I.b1 89 rfl GI;refine aN 44 [1,1,1,1,1,1,1,1,1,1,1,1,1,1,1,1,1,1,1,1,1,1,1,1,1,1,1,1,1,1,1,1,1,1,1,1,1,1,1] [(133,.bool true)] I fun a I=>wpList_nil (hC _ _ ?_);refine eJ (I.g rfl) rfl <| bu [] [(4,.bool false)] I fun a I=>wp_ret ?_;obtain rfl:=aC h;obtain rfl:=aC Dd;obtain rfl:=aC Dc;obtain rfl:=aC x2;obtain rfl:=aC x4
               refine al (a' (al (al (al (a' (al (a' (al (al (al (a' (al (al ?_)))))))))))));refine bq Tryz.results113 I rfl ?_;exact ⟨rfl,hm.aX [] []⟩
             have h:=J.c4 GI h;have I:=I.b1 89 rfl GI;refine bf 4 [1,1,0,2,1,1,1,2] [(91,.q r7 sn dE.bK),(93,.q r8 sp dH.bK)] [oK,2,nH,2] (ay (a1 (hm.e 0 rfl)) (ay (a1 (hm.e 1 rfl)) ax)) I fun a I=>?_;obtain ⟨Nj,aAU,h⟩:=J.aI h;have hc:=hm;refine bR (vs:=[.q r7 sn dE.bK,.q r8 sp dH.bK]) (cS I rfl rfl rfl rfl) rfl Tryz.call138 ⟨(I.g rfl),(I.g rfl),trivial⟩ (ace ((hc.into 0).pick ⟨⟨3,rfl⟩,⟨1,rfl⟩,trivial⟩) aAU) I rfl rfl ?_;rintro _ w ⟨rfl,af⟩;refine ⟨_,rfl,fun a I=>?_⟩;have ad:a7 [] _ w:=af.ev;have hm:=hc.back 0 af
             clear af hc;clear ad;refine aN 3 [1,1] [(97,.bool (!Nj))] I fun a I=>?_;rcases Bool.eq_false_or_eq_true (!Nj) with GJ | GJ
             · have h:=J.c5 GJ h;have I:=I.b1 97 rfl GJ;refine aN 36 [1,1,1,1,1,1,1,1,1,1,1,1,1,1,1,1,1,1,1,1,1,1,1,1,1,1,1,1,1,1,1,1] [(133,.bool true)] I fun a I=>wpList_nil (hC _ _ ?_);refine eJ (I.g rfl) rfl <| bu [] [(4,.bool false)] I fun a I=>wp_ret ?_;obtain rfl:=aC h;obtain rfl:=aC Dd;obtain rfl:=aC Dc;obtain rfl:=aC x2;obtain rfl:=aC x4
               refine al (a' (al (al (al (a' (al (a' (al (al (al (a' (al (al ?_)))))))))))));refine bq Tryz.results113 I rfl ?_;exact ⟨rfl,hm.aX [] []⟩
             have h:=J.c4 GJ h;have I:=I.b1 97 rfl GJ;refine bf 4 [1,1,0,3,1,1,1,3] [(99,.agg #[.i dE.Returns.Kind,ao dE.Returns.aO]),(101,.agg #[.i dH.Returns.Kind,ao dH.Returns.aO])] [oK,3,nH,3] (ay (a1 (hm.e 0 rfl)) (ay (a1 (hm.e 1 rfl)) ax)) I fun a I=>bU (cS I rfl rfl rfl rfl) (Gj (X:=dE.Returns) (Y:=dH.Returns) rfl (I.g rfl) (I.g rfl)) I rfl rfl fun a I=>?_
             refine bf 31 [1,0,0,0,5,0,0,1,5,0,0,0,0,0,6,0,0,1,6,0,0,0,0,0,7,0,0,1,7,0,0,0,0,0,8,0,0,0,1,8,0,0,0] [(133,.bool (((((!decide (dE.Returns=dH.Returns)) || (!decide (dE.cY=dH.cY))) || (!decide (dE.cX=dH.cX))) || (!decide (dE.Code=dH.Code))) || (!decide ((dE.bN.length:Int)=(dH.bN.length:Int)))))] [oK,8,nH,8,oK,7,nH,7,oK,6,nH,6,oK,5,nH,5] (ay (a1 (hm.e 0 rfl)) (ay (a1 (hm.e 1 rfl)) ax)) I fun a I=>wpList_nil (hC _ _ ?_);refine bn (I.g rfl) h (fun ap9 h=>?_) (fun ap9 h=>?_)
             · refine bu [] [(4,.bool false)] I fun a I=>wp_ret ?_;obtain rfl:=aC h;obtain rfl:=aC Dd;obtain rfl:=aC Dc;obtain rfl:=aC x2;obtain rfl:=aC x4;refine al (a' (al (al (al (a' (al (a' (al (al (al (a' (al (al ?_)))))))))))));refine bq Tryz.results113 I rfl ?_;exact ⟨rfl,hm.aX [] []⟩
             refine wp_skip <| hB _ _ <| bd [] [(11,.i 0)] I fun a I=>?_;obtain ⟨VQ,h,Td⟩:=J.e3 h
             refine cd (fun a w=>Fr ⟨152,[]⟩ [(0,.q ag ah a_),(1,.q aJ aQ b_),(5,.i iM),(6,.aK lS),(7,.aK mC),(8,.i jY)] a/\aw W M0 X w [ap.bm nH 133 [ao dE.Name,.bool dE.Static,.q r7 sn dE.bK,.i dE.Returns.Kind,ao dE.Returns.aO,.i dE.cY,.i dE.cX,ao dE.Code,.q qF tL dE.bN],ap.bm oK 133 [ao dH.Name,.bool dH.Static,.q r8 sp dH.bK,.i dH.Returns.Kind,ao dH.Returns.aO,.i dH.cY,.i dH.cX,ao dH.Code,.q qG tM dH.bN],ap.bm lS 136 [ao eu.Name,ao eu.b2,.q lH lO eu.Fields,.q k4 mx eu.aU],ap.bm mC 136 [ao eD.Name,ao eD.b2,.q lI lP eD.Fields,.q k5 my eD.aU]] [U J.er qG tM dH.bN,U J.dw r8 sp dH.bK,U J.er qF tL dE.bN,U J.dw r7 sn dE.bK,U J.b' k5 my eD.aU,U J.aW lI lP eD.Fields,U J.b' k4 mx eu.aU,U J.aW lH lO eu.Fields,U J.bc ag ah a_,U J.bc aJ aQ b_]/\VQ=(.go ())) (fun K jO=>?_) ?_
             · refine cB (fun (eB:Nat) a w=>∃ (ly:Int),Fr ⟨152,[]⟩ [(0,.q ag ah a_),(1,.q aJ aQ b_),(5,.i iM),(6,.aK lS),(7,.aK mC),(8,.i jY),(9,.aK nH),(10,.aK oK),(11,.i ly)] a/\aw W M0 X w [ap.bm nH 133 [ao dE.Name,.bool dE.Static,.q r7 sn dE.bK,.i dE.Returns.Kind,ao dE.Returns.aO,.i dE.cY,.i dE.cX,ao dE.Code,.q qF tL dE.bN],ap.bm oK 133 [ao dH.Name,.bool dH.Static,.q r8 sp dH.bK,.i dH.Returns.Kind,ao dH.Returns.aO,.i dH.cY,.i dH.cX,ao dH.Code,.q qG tM dH.bN],ap.bm lS 136 [ao eu.Name,ao eu.b2,.q lH lO eu.Fields,.q k4 mx eu.aU],ap.bm mC 136 [ao eD.Name,ao eD.b2,.q lI lP eD.Fields,.q k5 my eD.aU]] [U J.er qG tM dH.bN,U J.dw r8 sp dH.bK,U J.er qF tL dE.bN,U J.dw r7 sn dE.bK,U J.b' k5 my eD.aU,U J.aW lI lP eD.Fields,U J.b' k4 mx eu.aU,U J.aW lH lO eu.Fields,U J.bc ag ah a_,U J.bc aJ aQ b_]/\J.w4 dE dH eB ly=some VQ) F ⟨0,I.cut,hm,h⟩ ?_ ?_
               · rintro a w ⟨ly,I,hm,h⟩;exact absurd h (by simp [J.w4])
               rintro eB a w ⟨ly,I,hm,h⟩ K kn;rw [J.w4] at h;refine wp_seq_k fun K ko=>wp_seq_k fun K nL=>eH [0,8] [(138,.bool (decide (ly <(dE.bN.length:Int))))] [nH,8] (ay (a1 (hm.e 0 rfl)) ax) I fun a I=>nL _ _ <| bn (I.g rfl) h (fun ap' h=>?_) (fun ap' h=>?_)
               · refine wp_skip <| ko _ _ <| wp_seq_k fun K oL=>wp_block <| wp_seq_k fun K lW=>h5 (by kernel_rfl) (by kernel_rfl) <| Nc 3 [0,8] [(0,.q ag ah a_),(1,.q aJ aQ b_),(5,.i iM),(6,.aK lS),(7,.aK mC),(8,.i jY),(9,.aK nH),(10,.aK oK),(11,.i ly),(142,.q qF tL dE.bN),(143,.i ly)] [nH,8] (fun a5 ad=>(ay (b6 ad (a1 (hm.e 0 rfl))) ax)) I fun a I=>?_;obtain ⟨Bj,aDh,h⟩:=J.aI h;obtain ⟨amg,aw_,_,rfl,asN⟩:=b3 _ (hm.d 2 rfl) aDh
                 refine eK wn (fun a5 ad=>bI Tryz.underlying131 Tryz.sizeOf150 rfl (I.g rfl) (I.g rfl) amg aw_) I rfl rfl fun a I=>dQ 4 [0,0,1,8] [(145,.agg #[.i Bj.From,.i Bj.To,.i Bj.gY,ao Bj.aO]),(147,.q qG tM dH.bN),(148,.i ly)] [oK,8,bG qF,bH qF+(ly).toNat* 4] (fun a5 ad=>(ay (b6 ad asN) (ay (b6 ad (a1 (hm.e 1 rfl))) ax))) I fun a I=>?_;obtain ⟨Bk,aDi,h⟩:=J.aI h;obtain ⟨amh,aw',_,rfl,asO⟩:=b3 _ (hm.d 0 rfl) aDi;refine eK wn (fun a5 ad=>bI Tryz.underlying131 Tryz.sizeOf150 rfl (I.g rfl) (I.g rfl) amh aw') I rfl rfl fun a I=>?_
                 refine dQ 1 [0,0] [(150,.agg #[.i Bk.From,.i Bk.To,.i Bk.gY,ao Bk.aO])] [bG qG,bH qG+(ly).toNat* 4] (fun a5 ad=>(ay (b6 ad asO) ax)) I fun a I=>eK wn (fun a5 ad=>alf (X:=Bj) (Y:=Bk) rfl (I.g rfl) (I.g rfl)) I rfl rfl fun a I=>wpQuiet_nil fun w ad=>?_;have hm:=hm.dz ad;clear ad;refine lW _ _ <| bn (I.g rfl) h (fun aqa h=>?_) (fun aqa h=>?_)
                 · refine bu [] [(4,.bool false)] I fun a I=>wp_ret ?_;obtain rfl:=aC h;obtain rfl:=aC Td;obtain rfl:=aC Dd;obtain rfl:=aC Dc;obtain rfl:=aC x2;obtain rfl:=aC x4;refine a' (al (al (a' (al (a' (al (al (al (a' (al (a' (al (al (al (a' (al (al ?_)))))))))))))))));refine bq Tryz.results113 I rfl ?_;exact ⟨rfl,hm.aX [] []⟩
                 refine wp_skip <| oL _ _ <| cg [] [(11,.i (J.av (ly+ 1)))] I fun a I=>?_;exact kn _ _ ⟨J.av (ly+ 1),I.cut,hm,h⟩
               refine wp_exit <| bC (bC (cv ?_));exact jO _ _ ⟨I.cut,hm,(os h)⟩
             rintro a w ⟨I,hm,bb⟩;subst VQ;have h:=Td;clear Td;dsimp only [J.eV] at h;exact h6 _ _ ⟨I.cut,hm.aX [2,3] [4,5,6,7,8,9],(os h)⟩
           rintro a w ⟨I,hm,bb⟩;subst afh;have h:=Dd;clear Dd;dsimp only [J.eV] at h;refine hM _ _ <| cg [] [(8,.i (J.av (jY+ 1)))] I fun a I=>?_;exact fW _ _ ⟨J.av (jY+ 1),I.cut,hm,h⟩
         refine wp_exit <| bC (bC (cv ?_));exact fN _ _ ⟨I.cut,hm,(os h)⟩
       rintro a w ⟨I,hm,bb⟩;subst VO;have h:=Dc;clear Dc;dsimp only [J.eV] at h;exact dO _ _ ⟨I.cut,hm.aX [] [4,5],(os h)⟩
     rintro a w ⟨I,hm,bb⟩;subst aff;have h:=x2;clear x2;dsimp only [J.eV] at h;refine dy _ _ <| cg [] [(5,.i (J.av (iM+ 1)))] I fun a I=>?_;exact cM _ _ ⟨J.av (iM+ 1),I.cut,hm,h⟩
   refine wp_exit <| bC (bC (cv ?_));exact dm _ _ ⟨I.cut,hm,(os h)⟩
 rintro a w ⟨I,hm,bb⟩;subst W0;have h:=x4;clear x4;dsimp only [J.ec] at h;refine cn _ _ <| bu [] [(4,.bool true)] I fun a I=>wp_ret ?_;obtain rfl:=aC h;refine bq Tryz.results113 I rfl ?_;exact ⟨rfl,hm.aX [] []⟩
theorem ajG {W:World} {X:List Nat} {F:Nat} {a_:J.bt} {b_:J.bt} {r:Bool} {ag:aT} {ah:Nat} {aJ:aT} {aQ:Nat} {aS:aT} {aV:Nat} {bk:aT} {bl:Nat} {bg:aT} {bj:Nat} {bz:aT} {bA:Nat} {bD:aT} {bE:Nat} {fm:aT} {fv:Nat} {e8:aT} {fk:Nat} {c9:aT} {dp:Nat} {M0:List Nat} (hm:aw W M0 X W [] [U J.bc ag ah a_.aG,U (ai .i64) aJ aQ a_.aE,U (aH J.aW) aS aV a_.Fields,U (aH bF) bk bl a_.Names,U (aH J.bV) bg bj a_.aD,U J.bc bz bA b_.aG,U (ai .i64) bD bE b_.aE,U (aH J.aW) fm fv b_.Fields,U (aH bF) e8 fk b_.Names,U (aH J.bV) c9 dp b_.aD]) (h:J.Cb F a_ b_=some r) :
 Calls Tryz.prog 85 [.agg #[.q ag ah a_.aG,.q aJ aQ a_.aE,.q aS aV a_.Fields,.q bk bl a_.Names,.q bg bj a_.aD],.agg #[.q bz bA b_.aG,.q bD bE b_.aE,.q fm fv b_.Fields,.q e8 fk b_.Names,.q c9 dp b_.aD]].toArray W (fun e aF=>e= .returned (.bool r)/\aw W M0 X aF [] []):=by
 refine enter Tryz.func85 rfl Tryz.ntmps85 rfl fun a I=>?_;rw [J.Cb] at h;refine wp_seq_k fun K c2=>aZ <| cz (cs:=[.q ag ah a_.aG,.q aJ aQ a_.aE,.q aS aV a_.Fields,.q bk bl a_.Names,.q bg bj a_.aD]) wn (ef rfl rfl (I.g rfl)) I hm rfl rfl fun a cD w _ I hm=>cz (cs:=[.q bz bA b_.aG,.q bD bE b_.aE,.q fm fv b_.Fields,.q e8 fk b_.Names,.q c9 dp b_.aD]) wn (ef rfl rfl (I.g rfl)) I hm rfl rfl fun a e1 w _ I hm=>aN 1 [] [] I fun a I=>wpList_nil (c2 _ _ ?_);refine wp_seq_k fun K bO=>?_
 refine eH [0,1] [(5,.i (a_.aE.length:Int))] [cD,1] (ay (a1 (hm.e 1 rfl)) ax) I fun a I=>bO _ _ <| wp_seq_k fun K cc=>wp_seq_k fun K cT=>aZ <| bf 4 [0,0,1,0] [(16,.q ag ah a_.aG),(18,.q bz bA b_.aG)] [e1,0,cD,0] (ay (a1 (hm.e 1 rfl)) (ay (a1 (hm.e 0 rfl)) ax)) I fun a I=>?_;obtain ⟨yR,U1,h⟩:=J.aI h;have hc:=hm;refine bR (vs:=[.q ag ah a_.aG,.q bz bA b_.aG]) wn rfl Tryz.call113 ⟨(I.g rfl),(I.g rfl),trivial⟩ (ajE ((hc.into 0).pick ⟨⟨0,rfl⟩,⟨5,rfl⟩,trivial⟩) U1) I rfl rfl ?_;rintro _ w ⟨rfl,af⟩;refine ⟨_,rfl,fun a I=>?_⟩;have ad:a7 [] _ w:=af.ev;have hm:=hc.back 0 af
 clear af hc;clear ad;refine bf 35 [0,0,0,1,0,0,0,0,0,0,1,2,0,0,0,0,2,0,0,0,0,0,1,3,0,0,0,0,3,0,0,0,0,0,1,4,0,0,0,0,4,0,0,0] [(54,.bool (((((!yR) || (!decide ((b_.aE.length:Int)=(a_.aE.length:Int)))) || (!decide ((a_.Fields.length:Int)=(b_.Fields.length:Int)))) || (!decide ((a_.Names.length:Int)=(b_.Names.length:Int)))) || (!decide ((a_.aD.length:Int)=(b_.aD.length:Int)))))] [e1,4,cD,4,e1,3,cD,3,e1,2,cD,2,e1,1] (ay (a1 (hm.e 0 rfl)) (ay (a1 (hm.e 1 rfl)) ax)) I fun a I=>wpList_nil (cT _ _ ?_);refine bn (I.g rfl) h (fun oR h=>?_) (fun oR h=>?_)
 · refine bu [] [(4,.bool false)] I fun a I=>wp_ret ?_;obtain rfl:=aC h;refine al <| bq Tryz.results85 I rfl ?_;exact ⟨rfl,hm.aX [] []⟩
 refine wp_skip <| cc _ _ <| wp_seq_k fun K dK=>bd [] [(6,.i 0)] I fun a I=>?_;obtain ⟨WS,h,Uq⟩:=J.ei h
 refine cd (fun a w=>Fr ⟨184,[]⟩ [(2,.aK cD),(3,.aK e1)] a/\aw W M0 X w [ap.bm e1 30 [.q bz bA b_.aG,.q bD bE b_.aE,.q fm fv b_.Fields,.q e8 fk b_.Names,.q c9 dp b_.aD],ap.bm cD 30 [.q ag ah a_.aG,.q aJ aQ a_.aE,.q aS aV a_.Fields,.q bk bl a_.Names,.q bg bj a_.aD]] [U J.bc ag ah a_.aG,U (ai .i64) aJ aQ a_.aE,U (aH J.aW) aS aV a_.Fields,U (aH bF) bk bl a_.Names,U (aH J.bV) bg bj a_.aD,U J.bc bz bA b_.aG,U (ai .i64) bD bE b_.aE,U (aH J.aW) fm fv b_.Fields,U (aH bF) e8 fk b_.Names,U (aH J.bV) c9 dp b_.aD]/\WS=(.go ())) (fun K cM=>?_) ?_
 · refine cB (fun (bw:Nat) a w=>∃ (mc:Int),Fr ⟨184,[]⟩ [(2,.aK cD),(3,.aK e1),(5,.i (a_.aE.length:Int)),(6,.i mc)] a/\aw W M0 X w [ap.bm e1 30 [.q bz bA b_.aG,.q bD bE b_.aE,.q fm fv b_.Fields,.q e8 fk b_.Names,.q c9 dp b_.aD],ap.bm cD 30 [.q ag ah a_.aG,.q aJ aQ a_.aE,.q aS aV a_.Fields,.q bk bl a_.Names,.q bg bj a_.aD]] [U J.bc ag ah a_.aG,U (ai .i64) aJ aQ a_.aE,U (aH J.aW) aS aV a_.Fields,U (aH bF) bk bl a_.Names,U (aH J.bV) bg bj a_.aD,U J.bc bz bA b_.aG,U (ai .i64) bD bE b_.aE,U (aH J.aW) fm fv b_.Fields,U (aH bF) e8 fk b_.Names,U (aH J.bV) c9 dp b_.aD]/\J.w6 a_ b_ bw mc=some WS) F ⟨0,I.cut,hm,h⟩ ?_ ?_
   · rintro a w ⟨mc,I,hm,h⟩;exact absurd h (by simp [J.w6])
   rintro bw a w ⟨mc,I,hm,h⟩ K dj;rw [J.w6] at h;refine wp_seq_k fun K df=>bd [] [(57,.bool (decide (mc <(a_.aE.length:Int))))] I fun a I=>bn (I.g rfl) h (fun apC h=>?_) (fun apC h=>?_)
   · refine wp_skip <| df _ _ <| wp_seq_k fun K dO=>wp_block <| wp_seq_k fun K dS=>h5 (by kernel_rfl) (by kernel_rfl) <| dQ 3 [0,1] [(61,.q aJ aQ a_.aE),(62,.i mc)] [cD,1] (fun a5 ad=>(ay (b6 ad (a1 (hm.e 1 rfl))) ax)) I fun a I=>?_;obtain ⟨Oa,aCV,h⟩:=J.aI h;obtain ⟨alT,awL,_,rfl,asp⟩:=b3 _ (hm.d 1 rfl) aCV;refine eK wn (fun a5 ad=>bI Tryz.underlying22 Tryz.sizeOf3 rfl (I.g rfl) (I.g rfl) alT awL) I rfl rfl fun a I=>?_
     refine dQ 4 [0,0,1,1] [(64,.i Oa),(66,.q bD bE b_.aE),(67,.i mc)] [e1,1,bG aJ,bH aJ+(mc).toNat* 1] (fun a5 ad=>(ay (b6 ad asp) (ay (b6 ad (a1 (hm.e 0 rfl))) ax))) I fun a I=>?_;obtain ⟨vR,Vh,h⟩:=J.aI h;obtain ⟨RD,SQ,_,rfl,Sk⟩:=b3 _ (hm.d 6 rfl) Vh;refine eK wn (fun a5 ad=>bI Tryz.underlying22 Tryz.sizeOf3 rfl (I.g rfl) (I.g rfl) RD SQ) I rfl rfl fun a I=>dQ 2 [0,0] [(70,.bool (!decide (Oa=vR)))] [bG bD,bH bD+(mc).toNat* 1] (fun a5 ad=>(ay (b6 ad Sk) ax)) I fun a I=>wpQuiet_nil fun w ad=>?_;have hm:=hm.dz ad;clear ad;refine dS _ _ ?_
     refine bn (I.g rfl) h (fun apL h=>?_) (fun apL h=>?_)
     · refine bu [] [(4,.bool false)] I fun a I=>wp_ret ?_;obtain rfl:=aC h;obtain rfl:=aC Uq;refine a' (al (al (a' (al (al ?_)))));refine bq Tryz.results85 I rfl ?_;exact ⟨rfl,hm.aX [] []⟩
     refine wp_skip <| dO _ _ <| cg [] [(6,.i (J.av (mc+ 1)))] I fun a I=>?_;exact dj _ _ ⟨J.av (mc+ 1),I.cut,hm,h⟩
   refine wp_exit <| bC (bC (cv ?_));exact cM _ _ ⟨I.cut,hm,(os h)⟩
 rintro a w ⟨I,hm,bb⟩;subst WS;have h:=Uq;clear Uq;dsimp only [J.ec] at h;refine dK _ _ <| wp_seq_k fun K fa=>bd [] [(7,.i 0)] I fun a I=>?_;obtain ⟨VS,h,Th⟩:=J.ei h
 refine cd (fun a w=>Fr ⟨184,[]⟩ [(2,.aK cD),(3,.aK e1)] a/\aw W M0 X w [ap.bm e1 30 [.q bz bA b_.aG,.q bD bE b_.aE,.q fm fv b_.Fields,.q e8 fk b_.Names,.q c9 dp b_.aD],ap.bm cD 30 [.q ag ah a_.aG,.q aJ aQ a_.aE,.q aS aV a_.Fields,.q bk bl a_.Names,.q bg bj a_.aD]] [U J.bc ag ah a_.aG,U (ai .i64) aJ aQ a_.aE,U (aH J.aW) aS aV a_.Fields,U (aH bF) bk bl a_.Names,U (aH J.bV) bg bj a_.aD,U J.bc bz bA b_.aG,U (ai .i64) bD bE b_.aE,U (aH J.aW) fm fv b_.Fields,U (aH bF) e8 fk b_.Names,U (aH J.bV) c9 dp b_.aD]/\VS=(.go ())) (fun K hk=>?_) ?_
 · refine cB (fun (c7:Nat) a w=>∃ (l6:Int),Fr ⟨184,[]⟩ [(2,.aK cD),(3,.aK e1),(7,.i l6)] a/\aw W M0 X w [ap.bm e1 30 [.q bz bA b_.aG,.q bD bE b_.aE,.q fm fv b_.Fields,.q e8 fk b_.Names,.q c9 dp b_.aD],ap.bm cD 30 [.q ag ah a_.aG,.q aJ aQ a_.aE,.q aS aV a_.Fields,.q bk bl a_.Names,.q bg bj a_.aD]] [U J.bc ag ah a_.aG,U (ai .i64) aJ aQ a_.aE,U (aH J.aW) aS aV a_.Fields,U (aH bF) bk bl a_.Names,U (aH J.bV) bg bj a_.aD,U J.bc bz bA b_.aG,U (ai .i64) bD bE b_.aE,U (aH J.aW) fm fv b_.Fields,U (aH bF) e8 fk b_.Names,U (aH J.bV) c9 dp b_.aD]/\J.w7 F a_ b_ c7 l6=some VS) F ⟨0,I.cut,hm,h⟩ ?_ ?_
   · rintro a w ⟨l6,I,hm,h⟩;exact absurd h (by simp [J.w7])
   rintro c7 a w ⟨l6,I,hm,h⟩ K fx;rw [J.w7] at h;refine wp_seq_k fun K fN=>wp_seq_k fun K fW=>eH [0,2] [(75,.bool (decide (l6 <(a_.Fields.length:Int))))] [cD,2] (ay (a1 (hm.e 1 rfl)) ax) I fun a I=>fW _ _ <| bn (I.g rfl) h (fun aqx h=>?_) (fun aqx h=>?_)
   · refine wp_skip <| fN _ _ <| wp_seq_k fun K gv=>wp_block <| wp_seq_k fun K gQ=>g1 (m:=12) 12 (a7 []) (by kernel_rfl) rfl fun w ad=>?_;have hm:=hm.dz ad;clear ad;have a8:=hm;have ar:=a7.refl [] w;refine b7 [0,1,2,5,6,7] 6 [0,2,1,2] [(79,.q aS aV a_.Fields),(80,.i l6),(84,.q fm fv b_.Fields),(85,.i l6)] [e1,2,cD,2] (fun a5 ad=>(ay (b6 ad (a1 (a8.e 1 rfl))) (ay (b6 ad (a1 (a8.e 0 rfl))) ax))) I ar fun a I=>?_;obtain ⟨Ea,aDy,h⟩:=J.aI h;obtain ⟨amz,axq,aKu,U0,as6⟩:=b3 _ (a8.d 2 rfl) aDy;obtain ⟨J2,KQ,aCF⟩:=fY U0;subst aCF
     have a8:=a8.more (y:=U J.aW J2 KQ Ea) U0;have hm:=hm.more (y:=U J.aW J2 KQ Ea) U0;refine eM 3 rfl (by kernel_rfl) wn (fun a5=>bI Tryz.underlying26 Tryz.sizeOf106 rfl (I.g rfl) (I.g rfl) amz axq) ar I rfl rfl fun a I=>b7 [4] 1 [0,0] [(82,.q J2 KQ Ea)] [bG aS,bH aS+(l6).toNat* 1] (fun a5 ad=>(ay (b6 ad as6) ax)) I ar fun a I=>?_;obtain ⟨Ec,aDB,h⟩:=J.aI h;obtain ⟨amB,axt,aKv,U2,as8⟩:=b3 _ (a8.d 8 rfl) aDB;obtain ⟨BN,Cu,aCG⟩:=fY U2;subst aCG
     have a8:=a8.more (y:=U J.aW BN Cu Ec) U2;have hm:=hm.more (y:=U J.aW BN Cu Ec) U2;refine eM 8 rfl (by kernel_rfl) wn (fun a5=>bI Tryz.underlying26 Tryz.sizeOf106 rfl (I.g rfl) (I.g rfl) amB axt) ar I rfl rfl fun a I=>b7 [9] 1 [0,0] [(87,.q BN Cu Ec)] [bG fm,bH fm+(l6).toNat* 1] (fun a5 ad=>(ay (b6 ad as8) ax)) I ar fun a I=>cy 10 rfl (by kernel_rfl) (fun _=>ar) ?_;obtain ⟨XX,aBd,h⟩:=J.aI h;have hc:=hm
     refine bR (vs:=[.q J2 KQ Ea,.q BN Cu Ec]) wn rfl Tryz.call114 ⟨(I.g rfl),(I.g rfl),trivial⟩ (acb ((hc.into 0).pick ⟨⟨1,rfl⟩,⟨0,rfl⟩,trivial⟩) aBd) I rfl rfl ?_;rintro _ w ⟨rfl,af⟩;refine ⟨_,rfl,fun a I=>?_⟩;have ad:a7 [] _ w:=af.ev;have hm:=hc.back 0 af;clear af hc;have ar:=eW ar ad;clear ad;refine cq <| b7 [11] 1 [] [(89,.bool (!XX))] [] (fun a5 ad=>ax) I ar fun a I=>eU (by kernel_rfl) ?_ (fun _=>ar);clear a8 ar;refine gQ _ _ <| bn (I.g rfl) h (fun aqD h=>?_) (fun aqD h=>?_)
     · refine bu [] [(4,.bool false)] I fun a I=>wp_ret ?_;obtain rfl:=aC h;obtain rfl:=aC Th;refine a' (al (al (a' (al (al ?_)))));refine bq Tryz.results85 I rfl ?_;exact ⟨rfl,hm.aX [] []⟩
     refine wp_skip <| gv _ _ <| cg [] [(7,.i (J.av (l6+ 1)))] I fun a I=>?_;exact fx _ _ ⟨J.av (l6+ 1),I.cut,hm.eg [2,3,4,5,6,7,8,9,10,11],h⟩
   refine wp_exit <| bC (bC (cv ?_));exact hk _ _ ⟨I.cut,hm,(os h)⟩
 rintro a w ⟨I,hm,bb⟩;subst VS;have h:=Th;clear Th;dsimp only [J.ec] at h;refine fa _ _ <| wp_seq_k fun K h6=>bd [] [(8,.i 0)] I fun a I=>?_;obtain ⟨VW,h,L4⟩:=J.ei h
 refine cd (fun a w=>Fr ⟨184,[]⟩ [(2,.aK cD),(3,.aK e1)] a/\aw W M0 X w [ap.bm e1 30 [.q bz bA b_.aG,.q bD bE b_.aE,.q fm fv b_.Fields,.q e8 fk b_.Names,.q c9 dp b_.aD],ap.bm cD 30 [.q ag ah a_.aG,.q aJ aQ a_.aE,.q aS aV a_.Fields,.q bk bl a_.Names,.q bg bj a_.aD]] [U J.bc ag ah a_.aG,U (ai .i64) aJ aQ a_.aE,U (aH J.aW) aS aV a_.Fields,U (aH bF) bk bl a_.Names,U (aH J.bV) bg bj a_.aD,U J.bc bz bA b_.aG,U (ai .i64) bD bE b_.aE,U (aH J.aW) fm fv b_.Fields,U (aH bF) e8 fk b_.Names,U (aH J.bV) c9 dp b_.aD]/\VW=(.go ())) (fun K hB=>?_) ?_
 · refine cB (fun (eB:Nat) a w=>∃ (gS:Int),Fr ⟨184,[]⟩ [(2,.aK cD),(3,.aK e1),(8,.i gS)] a/\aw W M0 X w [ap.bm e1 30 [.q bz bA b_.aG,.q bD bE b_.aE,.q fm fv b_.Fields,.q e8 fk b_.Names,.q c9 dp b_.aD],ap.bm cD 30 [.q ag ah a_.aG,.q aJ aQ a_.aE,.q aS aV a_.Fields,.q bk bl a_.Names,.q bg bj a_.aD]] [U J.bc ag ah a_.aG,U (ai .i64) aJ aQ a_.aE,U (aH J.aW) aS aV a_.Fields,U (aH bF) bk bl a_.Names,U (aH J.bV) bg bj a_.aD,U J.bc bz bA b_.aG,U (ai .i64) bD bE b_.aE,U (aH J.aW) fm fv b_.Fields,U (aH bF) e8 fk b_.Names,U (aH J.bV) c9 dp b_.aD]/\J.w8 F a_ b_ eB gS=some VW) F ⟨0,I.cut,hm,h⟩ ?_ ?_
   · rintro a w ⟨gS,I,hm,h⟩;exact absurd h (by simp [J.w8])
   rintro eB a w ⟨gS,I,hm,h⟩ K hC;rw [J.w8] at h;refine wp_seq_k fun K jM=>wp_seq_k fun K jy=>eH [0,3] [(94,.bool (decide (gS <(a_.Names.length:Int))))] [cD,3] (ay (a1 (hm.e 1 rfl)) ax) I fun a I=>jy _ _ <| bn (I.g rfl) h (fun aqJ h=>?_) (fun aqJ h=>?_)
   · refine wp_skip <| jM _ _ <| wp_seq_k fun K mI=>?_;obtain ⟨afq,h,L8⟩:=J.e3 h
     refine cd (fun a w=>Fr ⟨184,[]⟩ [(2,.aK cD),(3,.aK e1),(8,.i gS)] a/\aw W M0 X w [ap.bm e1 30 [.q bz bA b_.aG,.q bD bE b_.aE,.q fm fv b_.Fields,.q e8 fk b_.Names,.q c9 dp b_.aD],ap.bm cD 30 [.q ag ah a_.aG,.q aJ aQ a_.aE,.q aS aV a_.Fields,.q bk bl a_.Names,.q bg bj a_.aD]] [U J.bc ag ah a_.aG,U (ai .i64) aJ aQ a_.aE,U (aH J.aW) aS aV a_.Fields,U (aH bF) bk bl a_.Names,U (aH J.bV) bg bj a_.aD,U J.bc bz bA b_.aG,U (ai .i64) bD bE b_.aE,U (aH J.aW) fm fv b_.Fields,U (aH bF) e8 fk b_.Names,U (aH J.bV) c9 dp b_.aD]/\afq=(.go ())) (fun K jN=>?_) ?_
     · refine wp_seq_k fun K jO=>wp_seq_k fun K kn=>h5 (by kernel_rfl) (by kernel_rfl) <| dQ 3 [0,3] [(98,.q bk bl a_.Names),(99,.i gS)] [cD,3] (fun a5 ad=>(ay (b6 ad (a1 (hm.e 1 rfl))) ax)) I fun a I=>?_;obtain ⟨Bo,aDN,h⟩:=J.aI h;obtain ⟨amQ,axI,aKx,aep,atm⟩:=b3 _ (hm.d 3 rfl) aDN;obtain ⟨P5,QJ,aCI⟩:=fY aep;subst aCI;have hm:=hm.more (y:=U bF P5 QJ Bo) aep;refine eK wn (fun a5 ad=>bI Tryz.underlying27 Tryz.sizeOf125 rfl (I.g rfl) (I.g rfl) amQ axI) I rfl rfl fun a I=>?_
       refine dQ 5 [0,0,1,3] [(102,.i (Bo.length:Int)),(104,.q e8 fk b_.Names),(105,.i gS)] [e1,3,bG bk,bH bk+(gS).toNat* 1] (fun a5 ad=>(ay (b6 ad atm) (ay (b6 ad (a1 (hm.e 0 rfl))) ax))) I fun a I=>?_;obtain ⟨Ed,aDO,h⟩:=J.aI h;obtain ⟨amR,axJ,aKy,aeq,atn⟩:=b3 _ (hm.d 9 rfl) aDO;obtain ⟨P6,QK,aCJ⟩:=fY aeq;subst aCJ;have hm:=hm.more (y:=U bF P6 QK Ed) aeq;refine eK wn (fun a5 ad=>bI Tryz.underlying27 Tryz.sizeOf125 rfl (I.g rfl) (I.g rfl) amR axJ) I rfl rfl fun a I=>?_
       refine dQ 3 [0,0] [(109,.bool (!decide ((Bo.length:Int)=(Ed.length:Int))))] [bG e8,bH e8+(gS).toNat* 1] (fun a5 ad=>(ay (b6 ad atn) ax)) I fun a I=>wpQuiet_nil fun w ad=>?_;have hm:=hm.dz ad;clear ad;refine kn _ _ <| bn (I.g rfl) h (fun aqQ h=>?_) (fun aqQ h=>?_)
       · refine bu [] [(4,.bool false)] I fun a I=>wp_ret ?_;obtain rfl:=aC h;obtain rfl:=aC L8;obtain rfl:=aC L4;refine al (a' (al (al (al (a' (al (al ?_)))))));refine bq Tryz.results85 I rfl ?_;exact ⟨rfl,hm.aX [] []⟩
       refine wp_skip <| jO _ _ <| bd [] [(9,.i 0)] I fun a I=>?_;obtain ⟨Wg,h,TH⟩:=J.e3 h
       refine cd (fun a w=>Fr ⟨184,[]⟩ [(2,.aK cD),(3,.aK e1),(8,.i gS)] a/\aw W M0 X w [ap.bm e1 30 [.q bz bA b_.aG,.q bD bE b_.aE,.q fm fv b_.Fields,.q e8 fk b_.Names,.q c9 dp b_.aD],ap.bm cD 30 [.q ag ah a_.aG,.q aJ aQ a_.aE,.q aS aV a_.Fields,.q bk bl a_.Names,.q bg bj a_.aD]] [U bF P6 QK Ed,U bF P5 QJ Bo,U J.bc ag ah a_.aG,U (ai .i64) aJ aQ a_.aE,U (aH J.aW) aS aV a_.Fields,U (aH bF) bk bl a_.Names,U (aH J.bV) bg bj a_.aD,U J.bc bz bA b_.aG,U (ai .i64) bD bE b_.aE,U (aH J.aW) fm fv b_.Fields,U (aH bF) e8 fk b_.Names,U (aH J.bV) c9 dp b_.aD]/\Wg=(.go ())) (fun K oL=>?_) ?_
       · refine cB (fun (fB:Nat) a w=>∃ (lA:Int),Fr ⟨184,[]⟩ [(2,.aK cD),(3,.aK e1),(8,.i gS),(9,.i lA)] a/\aw W M0 X w [ap.bm e1 30 [.q bz bA b_.aG,.q bD bE b_.aE,.q fm fv b_.Fields,.q e8 fk b_.Names,.q c9 dp b_.aD],ap.bm cD 30 [.q ag ah a_.aG,.q aJ aQ a_.aE,.q aS aV a_.Fields,.q bk bl a_.Names,.q bg bj a_.aD]] [U bF P6 QK Ed,U bF P5 QJ Bo,U J.bc ag ah a_.aG,U (ai .i64) aJ aQ a_.aE,U (aH J.aW) aS aV a_.Fields,U (aH bF) bk bl a_.Names,U (aH J.bV) bg bj a_.aD,U J.bc bz bA b_.aG,U (ai .i64) bD bE b_.aE,U (aH J.aW) fm fv b_.Fields,U (aH bF) e8 fk b_.Names,U (aH J.bV) c9 dp b_.aD]/\J.w9 a_ b_ gS fB lA=some Wg) F ⟨0,I.cut,hm,h⟩ ?_ ?_
         · rintro a w ⟨lA,I,hm,h⟩;exact absurd h (by simp [J.w9])
         rintro fB a w ⟨lA,I,hm,h⟩ K lW;rw [J.w9] at h;refine wp_seq_k fun K oM=>wp_seq_k fun K lX=>aZ <| bf 4 [0,3] [(110,.i lA),(112,.q bk bl a_.Names),(113,.i gS)] [cD,3] (ay (a1 (hm.e 1 rfl)) ax) I fun a I=>?_;obtain ⟨Ot,aDR,h⟩:=J.aI h;obtain ⟨amT,axL,aKz,aer,atp⟩:=b3 _ (hm.d 5 rfl) aDR;obtain ⟨ah',ai8,aCK⟩:=fY aer;subst aCK;have hm:=hm.more (y:=U bF ah' ai8 Ot) aer;refine bU wn (bI Tryz.underlying27 Tryz.sizeOf125 rfl (I.g rfl) (I.g rfl) amT axL) I rfl rfl fun a I=>?_
         refine bf 3 [0,0] [(117,.bool (decide (lA <(Ot.length:Int))))] [bG bk,bH bk+(gS).toNat* 1] (ay atp ax) I fun a I=>wpList_nil (lX _ _ ?_);refine bn (I.g rfl) h (fun aqR h=>?_) (fun aqR h=>?_)
         · refine wp_skip <| oM _ _ <| wp_seq_k fun K mJ=>wp_block <| wp_seq_k fun K ra=>h5 (by kernel_rfl) (by kernel_rfl) <| dQ 3 [0,3] [(121,.q bk bl a_.Names),(122,.i gS)] [cD,3] (fun a5 ad=>(ay (b6 ad (a1 (hm.e 1 rfl))) ax)) I fun a I=>?_;obtain ⟨Ou,aDS,h⟩:=J.aI h;obtain ⟨amU,axM,aKA,aes,atq⟩:=b3 _ (hm.d 6 rfl) aDS;obtain ⟨J3,abw,aCL⟩:=fY aes;subst aCL;have hm:=hm.more (y:=U bF J3 abw Ou) aes;refine eK wn (fun a5 ad=>bI Tryz.underlying27 Tryz.sizeOf125 rfl (I.g rfl) (I.g rfl) amU axM) I rfl rfl fun a I=>?_
           refine dQ 2 [0,0] [(124,.q J3 abw Ou),(125,.i lA)] [bG bk,bH bk+(gS).toNat* 1] (fun a5 ad=>(ay (b6 ad atq) ax)) I fun a I=>?_;obtain ⟨Ox,aDV,h⟩:=J.aI h;obtain ⟨amX,axP,_,rfl,att⟩:=b3 _ (hm.d 0 rfl) aDV;refine eK wn (fun a5 ad=>bI Tryz.underlying125 Tryz.sizeOf9 rfl (I.g rfl) (I.g rfl) amX axP) I rfl rfl fun a I=>dQ 4 [0,0,1,3] [(127,ao Ox),(129,.q e8 fk b_.Names),(130,.i gS)] [e1,3,bG J3,bH J3+(lA).toNat* 1] (fun a5 ad=>(ay (b6 ad att) (ay (b6 ad (a1 (hm.e 0 rfl))) ax))) I fun a I=>?_;obtain ⟨Oz,aDX,h⟩:=J.aI h
           obtain ⟨amZ,axR,aKB,aet,atv⟩:=b3 _ (hm.d 12 rfl) aDX;obtain ⟨J4,abx,aCM⟩:=fY aet;subst aCM;have hm:=hm.more (y:=U bF J4 abx Oz) aet;refine eK wn (fun a5 ad=>bI Tryz.underlying27 Tryz.sizeOf125 rfl (I.g rfl) (I.g rfl) amZ axR) I rfl rfl fun a I=>dQ 2 [0,0] [(132,.q J4 abx Oz),(133,.i lA)] [bG e8,bH e8+(gS).toNat* 1] (fun a5 ad=>(ay (b6 ad atv) ax)) I fun a I=>?_;obtain ⟨Y9,aDZ,h⟩:=J.aI h;obtain ⟨am1,axT,_,rfl,atx⟩:=b3 _ (hm.d 0 rfl) aDZ
           refine eK wn (fun a5 ad=>bI Tryz.underlying125 Tryz.sizeOf9 rfl (I.g rfl) (I.g rfl) am1 axT) I rfl rfl fun a I=>dQ 2 [0,0] [(136,.bool (!decide (Ox=Y9)))] [bG J4,bH J4+(lA).toNat* 1] (fun a5 ad=>(ay (b6 ad atx) ax)) I fun a I=>wpQuiet_nil fun w ad=>?_;have hm:=hm.dz ad;clear ad;refine ra _ _ <| bn (I.g rfl) h (fun aqU h=>?_) (fun aqU h=>?_)
           · refine bu [] [(4,.bool false)] I fun a I=>wp_ret ?_;obtain rfl:=aC h;obtain rfl:=aC TH;obtain rfl:=aC L8;obtain rfl:=aC L4;refine a' (al (al (a' (al (a' (al (al (al (a' (al (al ?_)))))))))));refine bq Tryz.results85 I rfl ?_;exact ⟨rfl,hm.aX [] []⟩
           refine wp_skip <| mJ _ _ <| cg [] [(9,.i (J.av (lA+ 1)))] I fun a I=>?_;exact lW _ _ ⟨J.av (lA+ 1),I.cut,hm.eg [3,4,5,6,7,8,9,10,11,12,13,14],h⟩
         refine wp_exit <| bC (bC (cv ?_));exact oL _ _ ⟨I.cut,hm.eg [1,2,3,4,5,6,7,8,9,10,11,12],(os h)⟩
       rintro a w ⟨I,hm,bb⟩;subst Wg;have h:=TH;clear TH;dsimp only [J.eV] at h;exact jN _ _ ⟨I.cut,hm.eg [2,3,4,5,6,7,8,9,10,11],(os h)⟩
     rintro a w ⟨I,hm,bb⟩;subst afq;have h:=L8;clear L8;dsimp only [J.eV] at h;refine mI _ _ <| cg [] [(8,.i (J.av (gS+ 1)))] I fun a I=>?_;exact hC _ _ ⟨J.av (gS+ 1),I.cut,hm,h⟩
   refine wp_exit <| bC (bC (cv ?_));exact hB _ _ ⟨I.cut,hm,(os h)⟩
 rintro a w ⟨I,hm,bb⟩;subst VW;have h:=L4;clear L4;dsimp only [J.ec] at h;refine h6 _ _ <| wp_seq_k fun K mK=>bd [] [(10,.i 0)] I fun a I=>?_;obtain ⟨WC,h,Md⟩:=J.ei h
 refine cd (fun a w=>Fr ⟨184,[]⟩ [] a/\aw W M0 X w [ap.bm e1 30 [.q bz bA b_.aG,.q bD bE b_.aE,.q fm fv b_.Fields,.q e8 fk b_.Names,.q c9 dp b_.aD],ap.bm cD 30 [.q ag ah a_.aG,.q aJ aQ a_.aE,.q aS aV a_.Fields,.q bk bl a_.Names,.q bg bj a_.aD]] [U J.bc ag ah a_.aG,U (ai .i64) aJ aQ a_.aE,U (aH J.aW) aS aV a_.Fields,U (aH bF) bk bl a_.Names,U (aH J.bV) bg bj a_.aD,U J.bc bz bA b_.aG,U (ai .i64) bD bE b_.aE,U (aH J.aW) fm fv b_.Fields,U (aH bF) e8 fk b_.Names,U (aH J.bV) c9 dp b_.aD]/\WC=(.go ())) (fun K rb=>?_) ?_
 · refine cB (fun (h8:Nat) a w=>∃ (gJ:Int),Fr ⟨184,[]⟩ [(2,.aK cD),(3,.aK e1),(10,.i gJ)] a/\aw W M0 X w [ap.bm e1 30 [.q bz bA b_.aG,.q bD bE b_.aE,.q fm fv b_.Fields,.q e8 fk b_.Names,.q c9 dp b_.aD],ap.bm cD 30 [.q ag ah a_.aG,.q aJ aQ a_.aE,.q aS aV a_.Fields,.q bk bl a_.Names,.q bg bj a_.aD]] [U J.bc ag ah a_.aG,U (ai .i64) aJ aQ a_.aE,U (aH J.aW) aS aV a_.Fields,U (aH bF) bk bl a_.Names,U (aH J.bV) bg bj a_.aD,U J.bc bz bA b_.aG,U (ai .i64) bD bE b_.aE,U (aH J.aW) fm fv b_.Fields,U (aH bF) e8 fk b_.Names,U (aH J.bV) c9 dp b_.aD]/\J.w_ F a_ b_ h8 gJ=some WC) F ⟨0,I.cut,hm,h⟩ ?_ ?_
   · rintro a w ⟨gJ,I,hm,h⟩;exact absurd h (by simp [J.w_])
   rintro h8 a w ⟨gJ,I,hm,h⟩ K oN;rw [J.w_] at h;refine wp_seq_k fun K oO=>wp_seq_k fun K mL=>eH [0,4] [(141,.bool (decide (gJ <(a_.aD.length:Int))))] [cD,4] (ay (a1 (hm.e 1 rfl)) ax) I fun a I=>mL _ _ <| bn (I.g rfl) h (fun arZ h=>?_) (fun arZ h=>?_)
   · refine wp_skip <| oO _ _ <| wp_seq_k fun K sC=>?_;obtain ⟨afL,h,Mf⟩:=J.e3 h
     refine cd (fun a w=>Fr ⟨184,[]⟩ [(2,.aK cD),(3,.aK e1),(10,.i gJ)] a/\aw W M0 X w [ap.bm e1 30 [.q bz bA b_.aG,.q bD bE b_.aE,.q fm fv b_.Fields,.q e8 fk b_.Names,.q c9 dp b_.aD],ap.bm cD 30 [.q ag ah a_.aG,.q aJ aQ a_.aE,.q aS aV a_.Fields,.q bk bl a_.Names,.q bg bj a_.aD]] [U J.bc ag ah a_.aG,U (ai .i64) aJ aQ a_.aE,U (aH J.aW) aS aV a_.Fields,U (aH bF) bk bl a_.Names,U (aH J.bV) bg bj a_.aD,U J.bc bz bA b_.aG,U (ai .i64) bD bE b_.aE,U (aH J.aW) fm fv b_.Fields,U (aH bF) e8 fk b_.Names,U (aH J.bV) c9 dp b_.aD]/\afL=(.go ())) (fun K ug=>?_) ?_
     · refine wp_seq_k fun K uh=>wp_seq_k fun K sD=>h5 (by kernel_rfl) (by kernel_rfl) <| dQ 3 [0,4] [(145,.q bg bj a_.aD),(146,.i gJ)] [cD,4] (fun a5 ad=>(ay (b6 ad (a1 (hm.e 1 rfl))) ax)) I fun a I=>?_;obtain ⟨Bt,aEU,h⟩:=J.aI h;obtain ⟨an2,ayS,aKC,aeu,auz⟩:=b3 _ (hm.d 4 rfl) aEU;obtain ⟨Qf,QU,aCN⟩:=fY aeu;subst aCN;have hm:=hm.more (y:=U J.bV Qf QU Bt) aeu;refine eK wn (fun a5 ad=>bI Tryz.underlying28 Tryz.sizeOf126 rfl (I.g rfl) (I.g rfl) an2 ayS) I rfl rfl fun a I=>?_
       refine dQ 5 [0,0,1,4] [(149,.i (Bt.length:Int)),(151,.q c9 dp b_.aD),(152,.i gJ)] [e1,4,bG bg,bH bg+(gJ).toNat* 1] (fun a5 ad=>(ay (b6 ad auz) (ay (b6 ad (a1 (hm.e 0 rfl))) ax))) I fun a I=>?_;obtain ⟨Ek,aEV,h⟩:=J.aI h;obtain ⟨an3,ayT,aKD,aev,auA⟩:=b3 _ (hm.d 10 rfl) aEV;obtain ⟨Qg,QV,aCO⟩:=fY aev;subst aCO;have hm:=hm.more (y:=U J.bV Qg QV Ek) aev;refine eK wn (fun a5 ad=>bI Tryz.underlying28 Tryz.sizeOf126 rfl (I.g rfl) (I.g rfl) an3 ayT) I rfl rfl fun a I=>?_
       refine dQ 3 [0,0] [(156,.bool (!decide ((Bt.length:Int)=(Ek.length:Int))))] [bG c9,bH c9+(gJ).toNat* 1] (fun a5 ad=>(ay (b6 ad auA) ax)) I fun a I=>wpQuiet_nil fun w ad=>?_;have hm:=hm.dz ad;clear ad;refine sD _ _ <| bn (I.g rfl) h (fun ar2 h=>?_) (fun ar2 h=>?_)
       · refine bu [] [(4,.bool false)] I fun a I=>wp_ret ?_;obtain rfl:=aC h;obtain rfl:=aC Mf;obtain rfl:=aC Md;refine al (a' (al (al (al (a' (al (al ?_)))))));refine bq Tryz.results85 I rfl ?_;exact ⟨rfl,hm.aX [] []⟩
       refine wp_skip <| uh _ _ <| bd [] [(11,.i 0)] I fun a I=>?_;obtain ⟨WT,h,Ur⟩:=J.e3 h
       refine cd (fun a w=>Fr ⟨184,[]⟩ [(2,.aK cD),(3,.aK e1),(10,.i gJ)] a/\aw W M0 X w [ap.bm e1 30 [.q bz bA b_.aG,.q bD bE b_.aE,.q fm fv b_.Fields,.q e8 fk b_.Names,.q c9 dp b_.aD],ap.bm cD 30 [.q ag ah a_.aG,.q aJ aQ a_.aE,.q aS aV a_.Fields,.q bk bl a_.Names,.q bg bj a_.aD]] [U J.bV Qg QV Ek,U J.bV Qf QU Bt,U J.bc ag ah a_.aG,U (ai .i64) aJ aQ a_.aE,U (aH J.aW) aS aV a_.Fields,U (aH bF) bk bl a_.Names,U (aH J.bV) bg bj a_.aD,U J.bc bz bA b_.aG,U (ai .i64) bD bE b_.aE,U (aH J.aW) fm fv b_.Fields,U (aH bF) e8 fk b_.Names,U (aH J.bV) c9 dp b_.aD]/\WT=(.go ())) (fun K uj=>?_) ?_
       · refine cB (fun (jS:Nat) a w=>∃ (lB:Int),Fr ⟨184,[]⟩ [(2,.aK cD),(3,.aK e1),(10,.i gJ),(11,.i lB)] a/\aw W M0 X w [ap.bm e1 30 [.q bz bA b_.aG,.q bD bE b_.aE,.q fm fv b_.Fields,.q e8 fk b_.Names,.q c9 dp b_.aD],ap.bm cD 30 [.q ag ah a_.aG,.q aJ aQ a_.aE,.q aS aV a_.Fields,.q bk bl a_.Names,.q bg bj a_.aD]] [U J.bV Qg QV Ek,U J.bV Qf QU Bt,U J.bc ag ah a_.aG,U (ai .i64) aJ aQ a_.aE,U (aH J.aW) aS aV a_.Fields,U (aH bF) bk bl a_.Names,U (aH J.bV) bg bj a_.aD,U J.bc bz bA b_.aG,U (ai .i64) bD bE b_.aE,U (aH J.aW) fm fv b_.Fields,U (aH bF) e8 fk b_.Names,U (aH J.bV) c9 dp b_.aD]/\J.w' a_ b_ gJ jS lB=some WT) F ⟨0,I.cut,hm,h⟩ ?_ ?_
         · rintro a w ⟨lB,I,hm,h⟩;exact absurd h (by simp [J.w'])
         rintro jS a w ⟨lB,I,hm,h⟩ K Gv;rw [J.w'] at h;refine wp_seq_k fun K CV=>wp_seq_k fun K xS=>aZ <| bf 4 [0,4] [(157,.i lB),(159,.q bg bj a_.aD),(160,.i gJ)] [cD,4] (ay (a1 (hm.e 1 rfl)) ax) I fun a I=>?_;obtain ⟨O1,aEW,h⟩:=J.aI h;obtain ⟨an4,ayU,aKE,aew,auB⟩:=b3 _ (hm.d 6 rfl) aEW;obtain ⟨ain,ajj,aCP⟩:=fY aew;subst aCP;have hm:=hm.more (y:=U J.bV ain ajj O1) aew;refine bU wn (bI Tryz.underlying28 Tryz.sizeOf126 rfl (I.g rfl) (I.g rfl) an4 ayU) I rfl rfl fun a I=>?_
         refine bf 3 [0,0] [(164,.bool (decide (lB <(O1.length:Int))))] [bG bg,bH bg+(gJ).toNat* 1] (ay auB ax) I fun a I=>wpList_nil (xS _ _ ?_);refine bn (I.g rfl) h (fun ar4 h=>?_) (fun ar4 h=>?_)
         · refine wp_skip <| CV _ _ <| wp_seq_k fun K z1=>wp_block <| wp_seq_k fun K uk=>h5 (by kernel_rfl) (by kernel_rfl) <| dQ 3 [0,4] [(168,.q bg bj a_.aD),(169,.i gJ)] [cD,4] (fun a5 ad=>(ay (b6 ad (a1 (hm.e 1 rfl))) ax)) I fun a I=>?_;obtain ⟨O2,aEX,h⟩:=J.aI h;obtain ⟨an5,ayV,aKF,aex,auC⟩:=b3 _ (hm.d 7 rfl) aEX;obtain ⟨Km,abV,aCQ⟩:=fY aex;subst aCQ;have hm:=hm.more (y:=U J.bV Km abV O2) aex;refine eK wn (fun a5 ad=>bI Tryz.underlying28 Tryz.sizeOf126 rfl (I.g rfl) (I.g rfl) an5 ayV) I rfl rfl fun a I=>?_
           refine dQ 2 [0,0] [(171,.q Km abV O2),(172,.i lB)] [bG bg,bH bg+(gJ).toNat* 1] (fun a5 ad=>(ay (b6 ad auC) ax)) I fun a I=>?_;obtain ⟨Jt,aEY,h⟩:=J.aI h;obtain ⟨an6,ayW,_,rfl,auD⟩:=b3 _ (hm.d 0 rfl) aEY;refine eK wn (fun a5 ad=>bI Tryz.underlying126 Tryz.sizeOf159 rfl (I.g rfl) (I.g rfl) an6 ayW) I rfl rfl fun a I=>dQ 4 [0,0,1,4] [(174,.agg #[.i Jt.aO,.i Jt.Method]),(176,.q c9 dp b_.aD),(177,.i gJ)] [e1,4,bG Km,bH Km+(lB).toNat* 2] (fun a5 ad=>(ay (b6 ad auD) (ay (b6 ad (a1 (hm.e 0 rfl))) ax))) I fun a I=>?_
           obtain ⟨O3,aEZ,h⟩:=J.aI h;obtain ⟨an7,ayX,aKG,aey,auE⟩:=b3 _ (hm.d 13 rfl) aEZ;obtain ⟨Kn,abW,aCR⟩:=fY aey;subst aCR;have hm:=hm.more (y:=U J.bV Kn abW O3) aey;refine eK wn (fun a5 ad=>bI Tryz.underlying28 Tryz.sizeOf126 rfl (I.g rfl) (I.g rfl) an7 ayX) I rfl rfl fun a I=>dQ 2 [0,0] [(179,.q Kn abW O3),(180,.i lB)] [bG c9,bH c9+(gJ).toNat* 1] (fun a5 ad=>(ay (b6 ad auE) ax)) I fun a I=>?_;obtain ⟨Ju,aE0,h⟩:=J.aI h;obtain ⟨an8,ayY,_,rfl,auF⟩:=b3 _ (hm.d 0 rfl) aE0
           refine eK wn (fun a5 ad=>bI Tryz.underlying126 Tryz.sizeOf159 rfl (I.g rfl) (I.g rfl) an8 ayY) I rfl rfl fun a I=>dQ 1 [0,0] [(182,.agg #[.i Ju.aO,.i Ju.Method])] [bG Kn,bH Kn+(lB).toNat* 2] (fun a5 ad=>(ay (b6 ad auF) ax)) I fun a I=>eK wn (fun a5 ad=>ac5 (X:=Jt) (Y:=Ju) rfl (I.g rfl) (I.g rfl)) I rfl rfl fun a I=>wpQuiet_nil fun w ad=>?_;have hm:=hm.dz ad;clear ad;refine uk _ _ <| bn (I.g rfl) h (fun ar5 h=>?_) (fun ar5 h=>?_)
           · refine bu [] [(4,.bool false)] I fun a I=>wp_ret ?_;obtain rfl:=aC h;obtain rfl:=aC Ur;obtain rfl:=aC Mf;obtain rfl:=aC Md;refine a' (al (al (a' (al (a' (al (al (al (a' (al (al ?_)))))))))));refine bq Tryz.results85 I rfl ?_;exact ⟨rfl,hm.aX [] []⟩
           refine wp_skip <| z1 _ _ <| D0 [] [(2,.aK cD),(3,.aK e1),(10,.i gJ),(11,.i (J.av (lB+ 1)))] I fun a I=>?_;exact Gv _ _ ⟨J.av (lB+ 1),I.cut,hm.eg [3,4,5,6,7,8,9,10,11,12,13,14],h⟩
         refine wp_exit <| bC (bC (cv ?_));exact uj _ _ ⟨I.cut,hm.eg [1,2,3,4,5,6,7,8,9,10,11,12],(os h)⟩
       rintro a w ⟨I,hm,bb⟩;subst WT;have h:=Ur;clear Ur;dsimp only [J.eV] at h;exact ug _ _ ⟨I.cut,hm.eg [2,3,4,5,6,7,8,9,10,11],(os h)⟩
     rintro a w ⟨I,hm,bb⟩;subst afL;have h:=Mf;clear Mf;dsimp only [J.eV] at h;refine sC _ _ <| cg [] [(10,.i (J.av (gJ+ 1)))] I fun a I=>?_;exact oN _ _ ⟨J.av (gJ+ 1),I.cut,hm,h⟩
   refine wp_exit <| bC (bC (cv ?_));exact rb _ _ ⟨I.cut,hm,(os h)⟩
 rintro a w ⟨I,hm,bb⟩;subst WC;have h:=Md;clear Md;dsimp only [J.ec] at h;refine mK _ _ <| bu [] [(4,.bool true)] I fun a I=>wp_ret ?_;obtain rfl:=aC h;refine bq Tryz.results85 I rfl ?_;exact ⟨rfl,hm.aX [] []⟩
theorem tX {W:World} {X:List Nat} {F:Nat} {aL:List J.aO} {s0:List UInt8} {r:Int} {ag:aT} {ah:Nat} {M0:List Nat} (hm:aw W M0 X W [] [U J.bc ag ah aL]) (h:J.om F aL s0=some r) :
 Calls Tryz.prog 112 [.q ag ah aL,ao s0].toArray W (fun e aF=>e= .returned (.i r)/\aw W M0 X aF [] []):=by
 refine enter Tryz.func112 rfl Tryz.ntmps112 rfl fun a I=>?_;rw [J.om] at h;refine bd [] [] I fun a I=>wp_seq_k fun K bO=>bd [] [(5,.i 0)] I fun a I=>?_;obtain ⟨Ws,h,TW⟩:=J.ei h;refine cd (fun a w=>Fr ⟨20,[]⟩ [] a/\aw W M0 X w [] [U J.bc ag ah aL]/\Ws=(.go ())) (fun K cT=>?_) ?_
 · refine cB (fun (bw:Nat) a w=>∃ (nf:Int),Fr ⟨20,[]⟩ [(0,.q ag ah aL),(1,ao s0),(5,.i nf)] a/\aw W M0 X w [] [U J.bc ag ah aL]/\J.wZ aL s0 bw nf=some Ws) F ⟨0,I.cut,hm,h⟩ ?_ ?_
   · rintro a w ⟨nf,I,hm,h⟩;exact absurd h (by simp [J.wZ])
   rintro bw a w ⟨nf,I,hm,h⟩ K cn;rw [J.wZ] at h;refine wp_seq_k fun K dK=>bd [] [(9,.bool (decide (nf <(aL.length:Int))))] I fun a I=>bn (I.g rfl) h (fun ar_ h=>?_) (fun ar_ h=>?_)
   · refine wp_skip <| dK _ _ <| wp_seq_k fun K cM=>wp_block <| wp_seq_k fun K dj=>aZ <| aN 2 [] [(12,.q ag ah aL),(13,.i nf)] I fun a I=>?_;obtain ⟨Jv,aE6,h⟩:=J.aI h;obtain ⟨aoe,ay7,_,⟨aiq,ajm,air,ajn,rfl,aws,LZ⟩,auO⟩:=b3 _ (hm.d 0 rfl) aE6;have hm:=hm.more (y:=U J.aW aiq ajm Jv.Fields) aws;have hm:=hm.more (y:=U J.b' air ajn Jv.aU) LZ;refine bU wn (bI Tryz.underlying25 Tryz.sizeOf136 rfl (I.g rfl) (I.g rfl) aoe ay7) I rfl rfl fun a I=>?_
     refine bf 4 [0,0] [(18,.bool (decide (Jv.Name=s0)))] [bG ag,bH ag+(nf).toNat* 4 + 0] (ay auO ax) I fun a I=>wpList_nil (dj _ _ ?_);refine bn (I.g rfl) h (fun Sh h=>?_) (fun Sh h=>?_)
     · refine bu [] [(4,.i nf)] I fun a I=>wp_ret ?_;obtain rfl:=aC h;obtain rfl:=aC TW;refine a' (al (al (a' (al (al ?_)))));refine bq Tryz.results112 I rfl ?_;exact ⟨rfl,hm.aX [] []⟩
     refine wp_skip <| cM _ _ <| cg [] [(5,.i (J.av (nf+ 1)))] I fun a I=>?_;exact cn _ _ ⟨J.av (nf+ 1),I.cut,hm.eg [2],h⟩
   refine wp_exit <| bC (bC (cv ?_));exact cT _ _ ⟨I.cut,hm,(os h)⟩
 rintro a w ⟨I,hm,bb⟩;subst Ws;have h:=TW;clear TW;dsimp only [J.ec] at h;refine bO _ _ <| bu [] [(4,.i (-1))] I fun a I=>wp_ret ?_;obtain rfl:=aC h;refine bq Tryz.results112 I rfl ?_;exact ⟨rfl,hm.aX [] []⟩
theorem Lp {W:World} {X:List Nat} {F:Nat} {aL:List J.aO} {bS:Int} {r:List Int} {ag:aT} {ah:Nat} {M0:List Nat} (hm:aw W M0 X W [] [U J.bc ag ah aL]) (h:J.xc F aL bS=some r) :
 Calls Tryz.prog 136 [.q ag ah aL,.i bS].toArray W (fun e aF=>∃ wg:Option Addr,∃ xo:Nat,e= .returned (.q wg xo r)/\aw W M0 X aF [] [U (ai .i64) wg xo r]):=by
 refine enter Tryz.func136 rfl Tryz.ntmps136 rfl fun a I=>?_;rw [J.xc] at h;refine bd [] [] I fun a I=>bd [] [(5,.slice none 0 0)] I fun a I=>wp_seq_k fun K cc=>?_;obtain ⟨VB,h,S0⟩:=J.ei h;refine cd (fun a w=>∃ (mo:aT) (mw:Nat) (AU:eI),Fr ⟨25,[]⟩ [(5,.q mo mw AU)] a/\aw W M0 X w [] [U (ai .i64) mo mw AU,U J.bc ag ah aL]/\VB=(.go AU)) (fun K cT=>?_) ?_
 · have hm:=hm.cU (α:=Int) 3 1;have hm:=hm.more (y:=ak.rows (ai .i64) [] []) rfl;have hm:=hm.more (y:=ak.of (aH (ai .i64)) [.slice none 0 0] ([]:eI)) (j1 _ _ _);refine cB (fun (bw:Nat) a w=>∃ (lx:Int) (BF:aT) (Cn:Nat) (pO:eI),Fr ⟨25,[]⟩ [(0,.q ag ah aL),(1,.i lx),(5,.q BF Cn pO)] a/\aw W M0 X w [] [U (ai .i64) BF Cn pO,U J.bc ag ah aL]/\J.xd F aL bw lx pO=some VB) F ⟨bS,none,0,[],I.cut,hm.aX [] [0,2],h⟩ ?_ ?_
   · rintro a w ⟨lx,BF,Cn,pO,I,hm,h⟩;exact absurd h (by simp [J.xd])
   rintro bw a w ⟨lx,BF,Cn,pO,I,hm,h⟩ K cn;rw [J.xd] at h;refine wp_seq_k fun K dK=>bd [] [(7,.bool (decide (0 <=lx)))] I fun a I=>bn (I.g rfl) h (fun aqc h=>?_) (fun aqc h=>?_)
   · refine wp_skip <| dK _ _ <| wp_block <| wp_seq_k fun K cM=>bd [] [(12,.bool (decide ((aL.length:Int) <(pO.length:Int))))] I fun a I=>bn (I.g rfl) h (fun Aa h=>?_) (fun Aa h=>?_)
     · refine bu [] [(4,.slice none 0 0)] I fun a I=>wp_ret ?_;obtain rfl:=aC h;obtain rfl:=aC S0;refine al (a' (al (a' (al (al ?_)))));refine bq Tryz.results136 I rfl ?_;have hm:=hm.more (y:=ak.of (aH (ai .i64)) [.slice none 0 0] ([]:eI)) (j1 _ _ _);exact ⟨none,0,rfl,hm.aX [] [0]⟩
     refine wp_skip <| cM _ _ <| wp_seq_k fun K dy=>aZ <| aN 1 [] [(13,.i lx)] I fun a I=>gy (cs:=[.i lx]) wn (fU (vs:=[(0,.i lx)]) Tryz.underlying22 Tryz.sizeOf3 Tryz.zeroValue3 rfl rfl rfl ⟨⟨(I.g rfl),rfl⟩,trivial⟩ (by kernel_rfl)) I hm rfl rfl fun a aKX w _ I hm=>aN 1 [] [(15,.q BF Cn pO)] I fun a I=>?_;obtain ⟨Iq,azL,h⟩:=J.aI h;have hm:=hm.jC (sz:=1) 0 [lx] rfl rfl rfl rfl;have hm:=hm.more (y:=ak.rows (ai .i64) [.i lx] [lx]) ⟨_,_,rfl,rfl,rfl⟩
     refine n3 (T:=(ai .i64)) 0 0 1 hm rfl rfl rfl Tryz.underlying22 jb rfl rfl azL rfl wn rfl (I.g rfl) (I.g rfl) I rfl rfl fun a ZU abn aLJ w I hm=>aN 1 [] [(5,.q ZU abn Iq)] I fun a I=>wpList_nil (dy _ _ ?_);refine aZ <| aN 3 [] [(17,.q ag ah aL),(18,.q ag ah aL),(19,.i lx)] I fun a I=>?_;obtain ⟨Bl,aDn,h⟩:=J.aI h;obtain ⟨amm,axe,_,⟨ah4,ai0,ah5,ai1,rfl,avo,avp⟩,asU⟩:=b3 _ (hm.d 3 rfl) aDn;have hm:=hm.more (y:=U J.aW ah4 ai0 Bl.Fields) avo
     have hm:=hm.more (y:=U J.b' ah5 ai1 Bl.aU) avp;refine bU wn (bI Tryz.underlying25 Tryz.sizeOf136 rfl (I.g rfl) (I.g rfl) amm axe) I rfl rfl fun a I=>bf 2 [0,1] [(22,ao Bl.b2)] [bG ag,bH ag+(lx).toNat* 4 + 1] (ay asU ax) I fun a I=>?_;obtain ⟨Nm,aA5,h⟩:=J.aI h;have hc:=hm;refine bR (vs:=[.q ag ah aL,ao Bl.b2]) wn rfl Tryz.call112 ⟨(I.g rfl),(I.g rfl),trivial⟩ (tX ((hc.into 0).pick ⟨⟨5,rfl⟩,trivial⟩) aA5) I rfl rfl ?_;rintro _ w ⟨rfl,af⟩;refine ⟨_,rfl,fun a I=>?_⟩;have ad:a7 [] _ w:=af.ev;have hm:=hc.back 0 af
     clear af hc;clear ad;refine aN 1 [] [(1,.i Nm)] I fun a I=>wpList_nil ?_;have hm:=hm.freeze 0 2 rfl rfl;exact cn _ _ ⟨Nm,ZU,abn,Iq,I.cut,hm.eg [0,6],h⟩
   refine wp_exit <| bC (bC (cv ?_));exact cT _ _ ⟨BF,Cn,pO,I.cut,hm,(os h)⟩
 rintro a w ⟨mo,mw,AU,I,hm,bb⟩;subst VB;have h:=S0;clear S0;dsimp only [J.ec] at h;refine cc _ _ <| bu [] [(4,.q mo mw AU)] I fun a I=>wp_ret ?_;obtain rfl:=aC h;refine bq Tryz.results136 I rfl ?_;exact ⟨mo,mw,rfl,hm.aX [] [0]⟩
theorem Q5 {W:World} {X:List Nat} {F:Nat} {aL:List J.aO} {kinds_:List J.Kind} {r:Bool} {ag:aT} {ah:Nat} {aJ:aT} {aQ:Nat} {M0:List Nat} (hm:aw W M0 X W [] [U J.bc ag ah aL,U J.dw aJ aQ kinds_]) (h:J.zC F aL kinds_=some r) :
 Calls Tryz.prog 137 [.q ag ah aL,.q aJ aQ kinds_].toArray W (fun e aF=>e= .returned (.bool r)/\aw W M0 X aF [] []):=by
 refine enter Tryz.func137 rfl Tryz.ntmps137 rfl fun a I=>?_;rw [J.zC] at h;refine bd [] [] I fun a I=>wp_seq_k fun K bO=>bd [] [(5,.i 0)] I fun a I=>?_;obtain ⟨AQ,h,x3⟩:=J.ei h;refine cd (fun a w=>Fr ⟨28,[]⟩ [] a/\aw W M0 X w [] [U J.bc ag ah aL,U J.dw aJ aQ kinds_]/\AQ=(.go ())) (fun K cT=>?_) ?_
 · refine cB (fun (bw:Nat) a w=>∃ (g8:Int),Fr ⟨28,[]⟩ [(0,.q ag ah aL),(1,.q aJ aQ kinds_),(5,.i g8)] a/\aw W M0 X w [] [U J.bc ag ah aL,U J.dw aJ aQ kinds_]/\J.tH F kinds_ aL bw g8=some AQ) F ⟨0,I.cut,hm,h⟩ ?_ ?_
   · rintro a w ⟨g8,I,hm,h⟩;exact absurd h (by simp [J.tH])
   rintro bw a w ⟨g8,I,hm,h⟩ K cn;rw [J.tH] at h;refine wp_seq_k fun K dK=>bd [] [(9,.bool (decide (g8 <(kinds_.length:Int))))] I fun a I=>bn (I.g rfl) h (fun ash h=>?_) (fun ash h=>?_)
   · refine wp_skip <| dK _ _ <| wp_seq_k fun K cM=>wp_block <| wp_seq_k fun K dj=>aZ <| aN 2 [] [(12,.q aJ aQ kinds_),(13,.i g8)] I fun a I=>?_;obtain ⟨O8,aFm,h⟩:=J.aI h;obtain ⟨aox,azn,_,rfl,asn⟩:=b3 _ (hm.d 1 rfl) aFm;refine bU wn (bI Tryz.underlying130 Tryz.sizeOf103 rfl (I.g rfl) (I.g rfl) aox azn) I rfl rfl fun a I=>bf 4 [0,1] [(18,.bool (!decide (O8.aO= [])))] [bG aJ,bH aJ+(g8).toNat* 2 + 1] (ay asn ax) I fun a I=>?_;rcases Bool.eq_false_or_eq_true (!decide (O8.aO= [])) with uo | uo
     · have h:=J.c5 uo h;have I:=I.b1 18 rfl uo;refine aN 3 [1,1,1] [(19,.q ag ah aL),(20,.q aJ aQ kinds_),(21,.i g8)] I fun a I=>?_;obtain ⟨Ob,aCW,h⟩:=J.aI h;obtain ⟨alU,awM,_,rfl,asq⟩:=b3 _ (hm.d 1 rfl) aCW;refine bU (cS I rfl rfl rfl rfl) (bI Tryz.underlying130 Tryz.sizeOf103 rfl (I.g rfl) (I.g rfl) alU awM) I rfl rfl fun a I=>bf 2 [1,1,0,1] [(24,ao Ob.aO)] [bG aJ,bH aJ+(g8).toNat* 2 + 1] (ay asq ax) I fun a I=>?_;obtain ⟨XJ,aAF,h⟩:=J.aI h;have hc:=hm
       refine bR (vs:=[.q ag ah aL,ao Ob.aO]) (cS I rfl rfl rfl rfl) rfl Tryz.call112 ⟨(I.g rfl),(I.g rfl),trivial⟩ (tX ((hc.into 0).pick ⟨⟨0,rfl⟩,trivial⟩) aAF) I rfl rfl ?_;rintro _ w ⟨rfl,af⟩;refine ⟨_,rfl,fun a I=>?_⟩;have hm:=hc.back 0 af;clear af hc;refine aN 2 [1,1] [(27,.bool (decide (XJ < 0)))] I fun a I=>wpList_nil (dj _ _ ?_);refine bn (I.g rfl) h (fun apH h=>?_) (fun apH h=>?_)
       · refine bu [] [(4,.bool false)] I fun a I=>wp_ret ?_;obtain rfl:=aC h;obtain rfl:=aC x3;refine a' (al (al (a' (al (al ?_)))));refine bq Tryz.results137 I rfl ?_;exact ⟨rfl,hm.aX [] []⟩
       refine wp_skip <| cM _ _ <| cg [] [(5,.i (J.av (g8+ 1)))] I fun a I=>?_;exact cn _ _ ⟨J.av (g8+ 1),I.cut,hm,h⟩
     have h:=J.c4 uo h;have I:=I.b1 18 rfl uo;refine aN 9 [1,1,1,1,1,1,1,1,1] [(27,.bool false)] I fun a I=>wpList_nil (dj _ _ ?_);refine g2 (I.g rfl) rfl <| wp_skip <| cM _ _ <| cg [] [(5,.i (J.av (g8+ 1)))] I fun a I=>?_;exact cn _ _ ⟨J.av (g8+ 1),I.cut,hm,h⟩
   refine wp_exit <| bC (bC (cv ?_));exact cT _ _ ⟨I.cut,hm,(os h)⟩
 rintro a w ⟨I,hm,bb⟩;subst AQ;have h:=x3;clear x3;dsimp only [J.ec] at h;refine bO _ _ <| bu [] [(4,.bool true)] I fun a I=>wp_ret ?_;obtain rfl:=aC h;refine bq Tryz.results137 I rfl ?_;exact ⟨rfl,hm.aX [] []⟩
theorem Q4 {W:World} {X:List Nat} {F:Nat} {aL:List J.aO} {bS:Int} {r:List J.Field} {ag:aT} {ah:Nat} {M0:List Nat} (hm:aw W M0 X W [] [U J.bc ag ah aL]) (h:J.zx F aL bS=some r) :
 Calls Tryz.prog 110 [.q ag ah aL,.i bS].toArray W (fun e aF=>∃ ZX:Option Addr,∃ abq:Nat,∃ ahD:List Value,e= .returned (.q ZX abq r)/\aw W M0 X aF [ap.row 105 3 (.q ZX abq r) r ahD] [ak.rows J.aW ahD r]):=by
 refine enter Tryz.func110 rfl Tryz.ntmps110 rfl fun a I=>?_;rw [J.zx] at h;refine bd [] [] I fun a I=>bd [] [(5,.slice none 0 0)] I fun a I=>wp_seq_k fun K cc=>aZ <| aN 2 [] [(8,.q ag ah aL),(9,.i bS)] I fun a I=>?_;obtain ⟨ey,AE,h⟩:=J.aI h;have hc:=hm;refine bR (vs:=[.q ag ah aL,.i bS]) wn rfl Tryz.call136 ⟨(I.g rfl),(I.g rfl),trivial⟩ (Lp ((hc.into 0).pick ⟨⟨0,rfl⟩,trivial⟩) AE) I rfl rfl ?_;rintro _ w ⟨aS,aV,rfl,af⟩;refine ⟨_,rfl,fun a I=>?_⟩;have ad:a7 [] _ w:=af.ev;have hm:=hc.back 0 af
 clear af hc;clear ad;refine aN 1 [] [(6,.q aS aV ey)] I fun a I=>wpList_nil (cc _ _ ?_);refine wp_seq_k fun K cT=>bd [] [(7,.i 0)] I fun a I=>?_;have hm:=hm.cU (α:=J.Field) 105 3;have hm:=hm.more (y:=ak.rows J.aW [] []) rfl;obtain ⟨VV,h,Tl⟩:=J.aI h
 refine cd (fun a w=>∃ (EK:aT) (FE:Nat) (uU:List J.Field) (Pg:dD),Fr ⟨28,[]⟩ [(5,.q EK FE uU)] a/\aw W M0 X w [ap.row 105 3 (.q EK FE uU) uU Pg] [ak.rows J.aW Pg uU,U (ai .i64) aS aV ey,U J.bc ag ah aL]/\VV=uU) (fun K dK=>?_) ?_
 · clear Tl;refine cB (fun (bw:Nat) a w=>∃ (BL:aT) (Cs:Nat) (pX:List J.Field) (JE:dD) (o7:Int),Fr ⟨28,[]⟩ [(0,.q ag ah aL),(5,.q BL Cs pX),(6,.q aS aV ey),(7,.i o7)] a/\aw W M0 X w [ap.row 105 3 (.q BL Cs pX) pX JE] [ak.rows J.aW JE pX,U (ai .i64) aS aV ey,U J.bc ag ah aL]/\J.qP aL ey bw pX o7=some VV) F ⟨none,0,[],[],0,I.cut,hm,h⟩ ?_ ?_
   · rintro a w ⟨BL,Cs,pX,JE,o7,I,hm,h⟩;exact absurd h (by simp [J.qP])
   rintro bw a w ⟨BL,Cs,pX,JE,o7,I,hm,h⟩ K dm;rw [J.qP] at h;refine wp_seq_k fun K cM=>bd [] [(14,.bool (decide (o7 <(ey.length:Int))))] I fun a I=>bn (I.g rfl) h (fun aqC h=>?_) (fun aqC h=>?_)
   · refine wp_skip <| cM _ _ <| wp_seq_k fun K df=>wp_block <| aZ <| aN 4 [] [(17,.q BL Cs pX),(18,.q ag ah aL),(19,.q aS aV ey),(20,.i o7)] I fun a I=>?_;obtain ⟨Om,aDC,h⟩:=J.aI h;obtain ⟨amD,axu,_,rfl,as_⟩:=b3 _ (hm.d 1 rfl) aDC;refine bU wn (bI Tryz.underlying22 Tryz.sizeOf3 rfl (I.g rfl) (I.g rfl) amD axu) I rfl rfl fun a I=>bf 1 [0,0] [(22,.i Om)] [bG aS,bH aS+(o7).toNat* 1] (ay as_ ax) I fun a I=>?_;obtain ⟨Jo,aDE,h⟩:=J.aI h;obtain ⟨amF,axw,_,⟨ZW,abp,ah9,ai6,rfl,avG,avH⟩,ata⟩:=b3 _ (hm.d 2 rfl) aDE
     have hm:=hm.more (y:=U J.aW ZW abp Jo.Fields) avG;have hm:=hm.more (y:=U J.b' ah9 ai6 Jo.aU) avH;refine bU wn (bI Tryz.underlying25 Tryz.sizeOf136 rfl (I.g rfl) (I.g rfl) amF axw) I rfl rfl fun a I=>bf 2 [0,2] [(25,.q ZW abp Jo.Fields)] [bG ag,bH ag+(Om).toNat* 4 + 2] (ay ata ax) I fun a I=>?_;obtain ⟨MF,azQ,h⟩:=J.aI h;refine n3 (T:=J.aW) 0 2 1 hm rfl rfl rfl Tryz.underlying106 Vu rfl rfl azQ rfl wn rfl (I.g rfl) (I.g rfl) I rfl rfl fun a BP Cw aIP w I hm=>?_
     refine aN 1 [] [(5,.q BP Cw MF)] I fun a I=>wpList_nil (df _ _ ?_);refine cg [] [(7,.i (J.av (o7+ 1)))] I fun a I=>?_;exact dm _ _ ⟨BP,Cw,MF,aIP,J.av (o7+ 1),I.cut,hm.eg [0,4,5],h⟩
   refine wp_exit <| bC (bC (cv ?_));exact dK _ _ ⟨BL,Cs,pX,JE,I.cut,hm,(os h)⟩
 rintro a w ⟨EK,FE,uU,Pg,I,hm,bb⟩;subst VV;have h:=Tl;clear Tl;refine cT _ _ <| bu [] [(4,.q EK FE uU)] I fun a I=>wp_ret ?_;obtain rfl:=aC h;refine bq Tryz.results110 I rfl ?_;exact ⟨EK,FE,Pg,rfl,hm.aX [0] [0]⟩
theorem ajI {W:World} {X:List Nat} {F:Nat} {aL:List J.aO} {bS:Int} {r:(List (List UInt8)) × (List J.Target)} {ag:aT} {ah:Nat} {M0:List Nat} (hm:aw W M0 X W [] [U J.bc ag ah aL]) (h:J.Fq F aL bS=some r) :
 Calls Tryz.prog 111 [.q ag ah aL,.i bS].toArray W (fun e aF=>∃ aaj:Option Addr,∃ abQ:Nat,∃ ahL:List Value,∃ aak:Option Addr,∃ abR:Nat,∃ ahM:List Value,e= .returned (.tuple #[.q aaj abQ r.1,.q aak abR r.2])/\aw W M0 X aF [ap.row 9 1 (.q aaj abQ r.1) r.1 ahL,ap.row 159 2 (.q aak abR r.2) r.2 ahM] [ak.rows bF ahL r.1,ak.rows J.bV ahM r.2]):=by
 refine enter Tryz.func111 rfl Tryz.ntmps111 rfl fun a I=>?_;rw [J.Fq] at h;refine bd [] [] I fun a I=>bd [] [(6,.slice none 0 0)] I fun a I=>bd [] [(7,.slice none 0 0)] I fun a I=>wp_seq_k fun K cT=>aZ <| aN 2 [] [(13,.q ag ah aL),(14,.i bS)] I fun a I=>?_;obtain ⟨ey,AE,h⟩:=J.aI h;have hc:=hm;refine bR (vs:=[.q ag ah aL,.i bS]) wn rfl Tryz.call136 ⟨(I.g rfl),(I.g rfl),trivial⟩ (Lp ((hc.into 0).pick ⟨⟨0,rfl⟩,trivial⟩) AE) I rfl rfl ?_
 rintro _ w ⟨aS,aV,rfl,af⟩;refine ⟨_,rfl,fun a I=>?_⟩;have hm:=hc.back 0 af;clear af hc;refine aN 1 [] [(8,.q aS aV ey)] I fun a I=>wpList_nil (cT _ _ ?_);refine wp_seq_k fun K cn=>bd [] [(9,.i 0)] I fun a I=>?_;have hm:=hm.cU (α:=List UInt8) 9 1;have hm:=hm.more (y:=ak.rows bF [] []) rfl;have hm:=hm.cU (α:=J.Target) 159 2;have hm:=hm.more (y:=ak.rows J.bV [] []) rfl;obtain ⟨WA,h,T5⟩:=J.aI h
 refine cd (fun a w=>∃ (E0:aT) (FW:Nat) (u3:List J.Target) (Ps:dD) (E1:aT) (FX:Nat) (u4:List (List UInt8)) (Pt:dD),Fr ⟨84,[]⟩ [(6,.q E1 FX u4),(7,.q E0 FW u3)] a/\aw W M0 X w [ap.row 159 2 (.q E0 FW u3) u3 Ps,ap.row 9 1 (.q E1 FX u4) u4 Pt] [ak.rows J.bV Ps u3,ak.rows bF Pt u4,U (ai .i64) aS aV ey,U J.bc ag ah aL]/\WA=(u3,u4)) (fun K dm=>?_) ?_
 · clear T5
   refine cB (fun (bw:Nat) a w=>∃ (BV:aT) (CD:Nat) (p4:List J.Target) (Ev:dD) (BW:aT) (CE:Nat) (p5:List (List UInt8)) (Ew:dD) (g7:Int),Fr ⟨84,[]⟩ [(0,.q ag ah aL),(6,.q BW CE p5),(7,.q BV CD p4),(8,.q aS aV ey),(9,.i g7)] a/\aw W M0 X w [ap.row 159 2 (.q BV CD p4) p4 Ev,ap.row 9 1 (.q BW CE p5) p5 Ew] [ak.rows J.bV Ev p4,ak.rows bF Ew p5,U (ai .i64) aS aV ey,U J.bc ag ah aL]/\J.xa F aL ey bw p4 p5 g7=some WA) F ⟨none,0,[],[],none,0,[],[],0,I.cut,hm.eg [0,0,2,3],h⟩ ?_ ?_
   · rintro a w ⟨BV,CD,p4,Ev,BW,CE,p5,Ew,g7,I,hm,h⟩;exact absurd h (by simp [J.xa])
   rintro bw a w ⟨BV,CD,p4,Ev,BW,CE,p5,Ew,g7,I,hm,h⟩ K cM;rw [J.xa] at h;refine wp_seq_k fun K dj=>bd [] [(19,.bool (decide (g7 <(ey.length:Int))))] I fun a I=>bn (I.g rfl) h (fun arN h=>?_) (fun arN h=>?_)
   · refine wp_skip <| dj _ _ <| wp_seq_k fun K dy=>?_;obtain ⟨afI,h,Uk⟩:=J.aI h
     refine cd (fun a w=>∃ (Kc:aT) (K0:Nat) (va:List J.Target) (PC:dD) (Kd:aT) (K1:Nat) (vb:List (List UInt8)) (PD:dD),Fr ⟨84,[]⟩ [(0,.q ag ah aL),(6,.q Kd K1 vb),(7,.q Kc K0 va),(8,.q aS aV ey),(9,.i g7)] a/\aw W M0 X w [ap.row 159 2 (.q Kc K0 va) va PC,ap.row 9 1 (.q Kd K1 vb) vb PD] [ak.rows J.bV PC va,ak.rows bF PD vb,U (ai .i64) aS aV ey,U J.bc ag ah aL]/\afI=(va,vb)) (fun K dO=>?_) ?_
     · clear Uk;refine bd [] [(10,.i 0)] I fun a I=>?_;obtain ⟨WO,h,Ul⟩:=J.aI h
       refine cd (fun a w=>∃ (Kf:aT) (K2:Nat) (vd:List J.Target) (PE:dD) (Kg:aT) (K3:Nat) (vf:List (List UInt8)) (PF:dD),Fr ⟨84,[]⟩ [(0,.q ag ah aL),(6,.q Kg K3 vf),(7,.q Kf K2 vd),(8,.q aS aV ey),(9,.i g7)] a/\aw W M0 X w [ap.row 159 2 (.q Kf K2 vd) vd PE,ap.row 9 1 (.q Kg K3 vf) vf PF] [ak.rows J.bV PE vd,ak.rows bF PF vf,U (ai .i64) aS aV ey,U J.bc ag ah aL]/\WO=(vd,vf)) (fun K fo=>?_) ?_
       · clear Ul
         refine cB (fun (c7:Nat) a w=>∃ (qL:aT) (q2:Nat) (jc:List J.Target) (tc:dD) (ns:aT) (pt:Nat) (gH:List (List UInt8)) (td:dD) (ib:Int),Fr ⟨84,[]⟩ [(0,.q ag ah aL),(6,.q ns pt gH),(7,.q qL q2 jc),(8,.q aS aV ey),(9,.i g7),(10,.i ib)] a/\aw W M0 X w [ap.row 159 2 (.q qL q2 jc) jc tc,ap.row 9 1 (.q ns pt gH) gH td] [ak.rows J.bV tc jc,ak.rows bF td gH,U (ai .i64) aS aV ey,U J.bc ag ah aL]/\J.xb F aL ey g7 c7 jc gH ib=some WO) F ⟨BV,CD,p4,Ev,BW,CE,p5,Ew,0,I.cut,hm,h⟩ ?_ ?_
         · rintro a w ⟨qL,q2,jc,tc,ns,pt,gH,td,ib,I,hm,h⟩;exact absurd h (by simp [J.xb])
         rintro c7 a w ⟨qL,q2,jc,tc,ns,pt,gH,td,ib,I,hm,h⟩ K fa;rw [J.xb] at h;refine wp_seq_k fun K gE=>wp_seq_k fun K hk=>aZ <| aN 4 [] [(22,.i ib),(23,.q ag ah aL),(24,.q aS aV ey),(25,.i g7)] I fun a I=>?_;obtain ⟨OZ,aEN,h⟩:=J.aI h;obtain ⟨anU,ayK,_,rfl,aup⟩:=b3 _ (hm.d 2 rfl) aEN;refine bU wn (bI Tryz.underlying22 Tryz.sizeOf3 rfl (I.g rfl) (I.g rfl) anU ayK) I rfl rfl fun a I=>bf 1 [0,0] [(27,.i OZ)] [bG aS,bH aS+(g7).toNat* 1] (ay aup ax) I fun a I=>?_;obtain ⟨pr,aEO,h⟩:=J.aI h
         obtain ⟨anV,ayL,_,⟨E7,F4,E8,F5,rfl,awa,awb⟩,auq⟩:=b3 _ (hm.d 3 rfl) aEO;have hm:=hm.more (y:=U J.aW E7 F4 pr.Fields) awa;have hm:=hm.more (y:=U J.b' E8 F5 pr.aU) awb;refine bU wn (bI Tryz.underlying25 Tryz.sizeOf136 rfl (I.g rfl) (I.g rfl) anV ayL) I rfl rfl fun a I=>bf 4 [0,3] [(32,.bool (decide (ib <(pr.aU.length:Int))))] [bG ag,bH ag+(OZ).toNat* 4 + 3] (ay auq ax) I fun a I=>wpList_nil (hk _ _ ?_);refine bn (I.g rfl) h (fun arW h=>?_) (fun arW h=>?_)
         · refine wp_skip <| gE _ _ <| wp_seq_k fun K fx=>?_;obtain ⟨afJ,h,Um⟩:=J.aI h
           refine cd (fun a w=>∃ (Kh:aT) (K4:Nat) (vg:List J.Target) (PG:dD) (Ki:aT) (K5:Nat) (vh:List (List UInt8)) (PH:dD),Fr ⟨84,[]⟩ [(0,.q ag ah aL),(6,.q Ki K5 vh),(7,.q Kh K4 vg),(8,.q aS aV ey),(9,.i g7),(10,.i ib)] a/\aw W M0 X w [ap.row 159 2 (.q Kh K4 vg) vg PG,ap.row 9 1 (.q Ki K5 vh) vh PH] [ak.rows J.bV PG vg,ak.rows bF PH vh,U J.b' E8 F5 pr.aU,U J.aW E7 F4 pr.Fields,U (ai .i64) aS aV ey,U J.bc ag ah aL]/\afJ=(vg,vh)) (fun K fN=>?_) ?_
           · clear Um;refine wp_seq_k fun K fW=>aZ <| aN 3 [] [(35,.q ag ah aL),(36,.q aS aV ey),(37,.i g7)] I fun a I=>?_;obtain ⟨O0,aEP,h⟩:=J.aI h;obtain ⟨anW,ayM,_,rfl,aur⟩:=b3 _ (hm.d 4 rfl) aEP;refine bU wn (bI Tryz.underlying22 Tryz.sizeOf3 rfl (I.g rfl) (I.g rfl) anW ayM) I rfl rfl fun a I=>bf 1 [0,0] [(39,.i O0)] [bG aS,bH aS+(g7).toNat* 1] (ay aur ax) I fun a I=>?_;obtain ⟨r1,aEQ,h⟩:=J.aI h;obtain ⟨anX,ayN,_,⟨Kj,K6,zr,F6,rfl,awc,awd⟩,aus⟩:=b3 _ (hm.d 5 rfl) aEQ
             have hm:=hm.more (y:=U J.aW Kj K6 r1.Fields) awc;have hm:=hm.more (y:=U J.b' zr F6 r1.aU) awd;refine bU wn (bI Tryz.underlying25 Tryz.sizeOf136 rfl (I.g rfl) (I.g rfl) anX ayN) I rfl rfl fun a I=>bf 3 [0,3] [(42,.q zr F6 r1.aU),(43,.i ib)] [bG ag,bH ag+(O0).toNat* 4 + 3] (ay aus ax) I fun a I=>?_;obtain ⟨iT,aER,h⟩:=J.aI h;obtain ⟨anY,ayO,_,⟨Kk,K7,Kl,K8,rfl,awe,awf⟩,aut⟩:=b3 _ (hm.d 0 rfl) aER
             have hm:=hm.more (y:=U J.dw Kk K7 iT.bK) awe;have hm:=hm.more (y:=U J.er Kl K8 iT.bN) awf;refine bU wn (bI Tryz.underlying134 Tryz.sizeOf133 rfl (I.g rfl) (I.g rfl) anY ayO) I rfl rfl fun a I=>bf 3 [0,0] [(11,ao iT.Name)] [bG zr,bH zr+(ib).toNat* 9 + 0] (ay aut ax) I fun a I=>wpList_nil (fW _ _ ?_);refine bd [] [(12,.i 0)] I fun a I=>wp_seq_k fun K gQ=>?_;obtain ⟨WQ,h,Un⟩:=J.aI h
             refine cd (fun a w=>∃ (sZ:Int),Fr ⟨84,[]⟩ [(0,.q ag ah aL),(6,.q ns pt gH),(7,.q qL q2 jc),(8,.q aS aV ey),(9,.i g7),(10,.i ib),(11,ao iT.Name),(12,.i sZ)] a/\aw W M0 X w [ap.row 159 2 (.q qL q2 jc) jc tc,ap.row 9 1 (.q ns pt gH) gH td] [U J.er Kl K8 iT.bN,U J.dw Kk K7 iT.bK,U J.b' zr F6 r1.aU,U J.aW Kj K6 r1.Fields,U J.b' E8 F5 pr.aU,U J.aW E7 F4 pr.Fields,ak.rows J.bV tc jc,ak.rows bF td gH,U (ai .i64) aS aV ey,U J.bc ag ah aL]/\WQ=sZ) (fun K hM=>?_) ?_
             · clear Un
               refine cB (fun (eB:Nat) a w=>∃ (kV:Int),Fr ⟨84,[]⟩ [(0,.q ag ah aL),(6,.q ns pt gH),(7,.q qL q2 jc),(8,.q aS aV ey),(9,.i g7),(10,.i ib),(11,ao iT.Name),(12,.i kV)] a/\aw W M0 X w [ap.row 159 2 (.q qL q2 jc) jc tc,ap.row 9 1 (.q ns pt gH) gH td] [U J.er Kl K8 iT.bN,U J.dw Kk K7 iT.bK,U J.b' zr F6 r1.aU,U J.aW Kj K6 r1.Fields,U J.b' E8 F5 pr.aU,U J.aW E7 F4 pr.Fields,ak.rows J.bV tc jc,ak.rows bF td gH,U (ai .i64) aS aV ey,U J.bc ag ah aL]/\J.tF gH iT eB kV=some WQ) F ⟨0,I.cut,hm,h⟩ ?_ ?_
               · rintro a w ⟨kV,I,hm,h⟩;exact absurd h (by simp [J.tF])
               rintro eB a w ⟨kV,I,hm,h⟩ K h6;rw [J.tF] at h;refine wp_seq_k fun K hA=>wp_seq_k fun K hB=>aZ <| aN 5 [] [(51,.bool (decide (kV <(gH.length:Int))))] I fun a I=>?_;rcases Bool.eq_false_or_eq_true (decide (kV <(gH.length:Int))) with Hq | Hq
               · have h:=J.c5 Hq h;have I:=I.b1 51 rfl Hq;refine aN 2 [1,1] [(52,.q ns pt gH),(53,.i kV)] I fun a I=>?_;obtain ⟨Zb,aES,h⟩:=J.aI h;obtain ⟨anZ,ayP,_,rfl,auu⟩:=gk (hm.e 1 rfl) (hm.d 7 rfl) aES;refine bU (cS I rfl rfl rfl rfl) (bI Tryz.underlying125 Tryz.sizeOf9 rfl (I.g rfl) (I.g rfl) anZ ayP) I rfl rfl fun a I=>bf 4 [1,0,0,1,1,1] [(58,.bool (!decide (Zb=iT.Name)))] [bG ns,bH ns+(kV).toNat* 1] (ay auu ax) I fun a I=>wpList_nil (hB _ _ ?_);refine bn (I.g rfl) h (fun arX h=>?_) (fun arX h=>?_)
                 · refine wp_skip <| hA _ _ <| wp_block <| cg [] [(12,.i (J.av (kV+ 1)))] I fun a I=>?_;exact h6 _ _ ⟨J.av (kV+ 1),I.cut,hm,h⟩
                 refine wp_exit <| bC (bC (cv ?_));exact hM _ _ ⟨kV,I.cut,hm,(os h)⟩
               have h:=J.c4 Hq h;have I:=I.b1 51 rfl Hq;refine aN 7 [1,1,1,1,1,1,1] [(58,.bool false)] I fun a I=>wpList_nil (hB _ _ ?_);refine g2 (I.g rfl) rfl <| wp_exit <| bC (bC (cv ?_));exact hM _ _ ⟨kV,I.cut,hm,(os h)⟩
             rintro a w ⟨sZ,I,hm,bb⟩;subst WQ;have h:=Un;clear Un;refine gQ _ _ ?_;obtain ⟨afK,h,Uo⟩:=J.aI h
             refine q6 (fun a w=>∃ (B0:aT) (CH:Nat) (sT:List J.Target) (Zl:dD) (E_:aT) (F8:Nat) (sU:List (List UInt8)) (PI:dD),Fr ⟨84,[]⟩ [(0,.q ag ah aL),(6,.q E_ F8 sU),(7,.q B0 CH sT),(8,.q aS aV ey),(9,.i g7),(10,.i ib),(12,.i sZ)] a/\aw W M0 X w [ap.row 159 2 (.q B0 CH sT) sT Zl,ap.row 9 1 (.q E_ F8 sU) sU PI] [ak.rows J.bV Zl sT,ak.rows bF PI sU,U J.er Kl K8 iT.bN,U J.dw Kk K7 iT.bK,U J.b' zr F6 r1.aU,U J.aW Kj K6 r1.Fields,U J.b' E8 F5 pr.aU,U J.aW E7 F4 pr.Fields,U (ai .i64) aS aV ey,U J.bc ag ah aL]/\afK=(sT,sU)) (fun K hC=>?_) ?_
             · clear Uo;refine bd [] [(64,.bool (decide (sZ=(gH.length:Int))))] I fun a I=>bn (I.g rfl) h (fun arY h=>?_) (fun arY h=>?_)
               · refine aZ <| aN 2 [] [(65,.q ns pt gH),(66,ao iT.Name)] I fun a I=>gy (cs:=[ao iT.Name]) wn (fU (vs:=[(0,ao iT.Name)]) Tryz.underlying125 Tryz.sizeOf9 Tryz.zeroValue9 rfl rfl rfl ⟨⟨(I.g rfl),rfl⟩,trivial⟩ (by kernel_rfl)) I hm rfl rfl fun a aK6 w _ I hm=>?_;obtain ⟨MP,az8,h⟩:=J.aI h;refine iQ (T:=bF) (ml:=[iT.Name]) 2 0 7 hm rfl rfl rfl Tryz.underlying125 yn rfl rfl az8 rfl rfl ⟨_,_,rfl,rfl,rfl⟩ wn rfl (I.g rfl) (I.g rfl) I rfl rfl fun a aah abO aI5 w I hm=>aN 1 [] [(69,.q qL q2 jc)] I fun a I=>?_
                 refine bU wn (gm (vs:=[]) (cs:=[.i 0,.i 0]) Tryz.zeroValue159 Tryz.underlying159 XF rfl trivial (by kernel_rfl)) I rfl rfl fun a I=>gy (cs:=[.i 0,.i 0]) wn (fU (vs:=[(0,.agg #[.i 0,.i 0])]) Tryz.underlying126 Tryz.sizeOf159 Tryz.zeroValue159 rfl rfl rfl ⟨⟨(I.g rfl),rfl⟩,trivial⟩ (by kernel_rfl)) I hm rfl rfl fun a aK7 w _ I hm=>?_;obtain ⟨MQ,az9,h⟩:=J.aI h;refine iQ (T:=J.bV) (ml:=[(⟨0,0⟩:J.Target)]) 1 0 7 hm rfl rfl rfl Tryz.underlying126 Mq rfl rfl az9 rfl rfl ⟨_,_,rfl,rfl,rfl⟩ wn rfl (I.g rfl) (I.g rfl) I rfl rfl fun a aai abP aI6 w I hm=>?_
                 refine aN 2 [] [(6,.q aah abO MP),(7,.q aai abP MQ)] I fun a I=>wpList_nil ?_;exact hC _ _ ⟨aai,abP,MQ,aI6,aah,abO,MP,aI5,I.cut,hm.eg [0,1,2,3,4,5,6,7,10,11],(os h)⟩
               refine wp_skip ?_;exact hC _ _ ⟨qL,q2,jc,tc,ns,pt,gH,td,I.cut,hm.eg [6,7,0,1,2,3,4,5,8,9],(os h)⟩
             rintro a w ⟨B0,CH,sT,Zl,E_,F8,sU,PI,I,hm,bb⟩;subst afK;have h:=Uo;clear Uo;dsimp only at h;refine aZ <| aN 4 [] [(73,.q B0 CH sT),(74,.i sZ),(75,.q aS aV ey),(76,.i g7)] I fun a I=>?_;obtain ⟨Bs,aET,h⟩:=J.aI h;obtain ⟨an0,ayQ,_,rfl,auw⟩:=b3 _ (hm.d 8 rfl) aET;refine bU wn (bI Tryz.underlying22 Tryz.sizeOf3 rfl (I.g rfl) (I.g rfl) an0 ayQ) I rfl rfl fun a I=>bf 2 [0,0] [(78,.i Bs),(79,.i ib)] [bG aS,bH aS+(g7).toNat* 1] (ay auw ax) I fun a I=>?_
             refine bU wn (gm (vs:=[(0,.i Bs),(1,.i ib)]) (cs:=[.i Bs,.i ib]) Tryz.zeroValue159 Tryz.underlying159 XF rfl ⟨⟨(I.g rfl),rfl⟩,⟨(I.g rfl),rfl⟩,trivial⟩ (by kernel_rfl)) I rfl rfl fun a I=>?_;obtain ⟨Zc,aeM,h⟩:=J.aI h;obtain ⟨an1,ayR,_,rfl,auy⟩:=gk (hm.e 0 rfl) (hm.d 0 rfl) aeM;refine bU wn (bI Tryz.underlying126 Tryz.sizeOf159 rfl (I.g rfl) (I.g rfl) an1 ayR) I rfl rfl fun a I=>?_;obtain ⟨MR,az_,h⟩:=J.aI h
             refine qy (T:=J.bV) (d':=(⟨Bs,ib⟩:J.Target)) (vs:=[.i Bs,.i ib]) (cs0:=[.i Zc.aO,.i Zc.Method]) (kk:=0) 0 0 az_ hm rfl rfl aeM rfl auy wn rfl Tryz.sizeOf159 rfl rfl rfl rfl rfl (I.g rfl) (I.g rfl) rfl fun aI7 w hlen ad hm=>?_;try unfold Value.q at hm;try unfold Value.q at I;rw [hlen] at hm;try rw [hlen] at I;clear hlen;clear ad;refine wpList_nil ?_;have I:=I.cut (l':=[(0,.q ag ah aL),(6,.q E_ F8 sU),(7,.q B0 CH MR),(8,.q aS aV ey),(9,.i g7),(10,.i ib)])
             exact fN _ _ ⟨B0,CH,MR,aI7,E_,F8,sU,PI,I.cut,hm.eg [0,2,7,8,9,10],(os h)⟩
           rintro a w ⟨Kh,K4,vg,PG,Ki,K5,vh,PH,I,hm,bb⟩;subst afJ;have h:=Um;clear Um;dsimp only at h;refine fx _ _ <| cg [] [(10,.i (J.av (ib+ 1)))] I fun a I=>?_;exact fa _ _ ⟨Kh,K4,vg,PG,Ki,K5,vh,PH,J.av (ib+ 1),I.cut,hm.eg [0,1,4,5],h⟩
         refine wp_exit <| bC (bC (cv ?_));exact fo _ _ ⟨qL,q2,jc,tc,ns,pt,gH,td,I.cut,hm.eg [2,3,4,5],(os h)⟩
       rintro a w ⟨Kf,K2,vd,PE,Kg,K3,vf,PF,I,hm,bb⟩;subst WO;have h:=Ul;clear Ul;dsimp only at h;exact dO _ _ ⟨Kf,K2,vd,PE,Kg,K3,vf,PF,I.cut,hm,(os h)⟩
     rintro a w ⟨Kc,K0,va,PC,Kd,K1,vb,PD,I,hm,bb⟩;subst afI;have h:=Uk;clear Uk;dsimp only at h;refine dy _ _ <| cg [] [(9,.i (J.av (g7+ 1)))] I fun a I=>?_;exact cM _ _ ⟨Kc,K0,va,PC,Kd,K1,vb,PD,J.av (g7+ 1),I.cut,hm,h⟩
   refine wp_exit <| bC (bC (cv ?_));exact dm _ _ ⟨BV,CD,p4,Ev,BW,CE,p5,Ew,I.cut,hm,(os h)⟩
 rintro a w ⟨E0,FW,u3,Ps,E1,FX,u4,Pt,I,hm,bb⟩;subst WA;have h:=T5;clear T5;dsimp only at h;refine cn _ _ <| bu [] [(4,.q E1 FX u4),(5,.q E0 FW u3)] I fun a I=>wp_ret ?_;obtain rfl:=aC h;refine g9 Tryz.results111 I rfl rfl ?_;exact ⟨E1,FX,Pt,E0,FW,Ps,rfl,hm.aX [1,0] [1,0]⟩
end Go.Proofs.YtpkhpagplommoaaGreat
namespace J
def si (F:Nat) (aL:List aO):Nat->Int->Option (Way (Int) (Unit))
 | 0,_=>none
 | bw+ 1,eY=>
   cond (decide (eY <(aL.length:Int))) ((idx aL eY).bind fun Em=>
   (om F aL Em.Name).bind fun XI=>
   cond (!decide (XI=eY)) (some (.out 6)) (si F aL bw (av (eY+ 1)))) (some (.go ()))
def wR (aL:List aO):Nat->Int->Option (Way (Int) (Unit))
 | 0,_=>none
 | c7+ 1,l7=>
   cond (decide (l7 <(aL.length:Int))) ((idx aL l7).bind fun Eb=>
   (idx aL l7).bind fun Jn=>
   cond (!((decide (Eb.Name= [79,98,106,101,99,116])) == (decide (Jn.b2= [])))) (some (.out 4)) (wR aL c7 (av (l7+ 1)))) (some (.go ()))
def tx (F:Nat) (aL:List aO):Nat->Int->Option (Way (Int) (Unit))
 | 0,_=>none
 | eB+ 1,kC=>
   cond (decide (kC <(aL.length:Int))) ((idx aL kC).bind fun Eg=>
   cond (!decide (Eg.b2= [])) ((idx aL kC).bind fun Ei=>
   (om F aL Ei.b2).bind fun Yc=>
   cond (decide (Yc < 0)) (some (.out 5)) (tx F aL eB (av (kC+ 1)))) (tx F aL eB (av (kC+ 1)))) (some (.go ()))
def wS (F:Nat) (aL:List aO):Nat->Int->Option (Way (Int) (Unit))
 | 0,_=>none
 | fB+ 1,o9=>
   cond (decide (o9 <(aL.length:Int))) ((xc F aL o9).bind fun Yg=>
   cond (decide ((Yg.length:Int)= 0)) (some (.out 4)) (wS F aL fB (av (o9+ 1)))) (some (.go ()))
def wT (F:Nat) (aL:List aO) (fC:Int):Nat->Int->Option (Way (Int) (Unit))
 | 0,_=>none
 | jS+ 1,m'=>
   (idx aL fC).bind fun Jl=>
   cond (decide (m' <(Jl.Fields.length:Int))) ((idx aL fC).bind fun Jm=>
   (idx Jm.Fields m').bind fun n_=>
   (zC F aL [(⟨n_.Kind.Kind,n_.Kind.aO⟩:Kind)]).bind fun XP=>
   cond (!XP) (some (.out 5)) (wT F aL fC jS (av (m'+ 1)))) (some (.go ()))
def wV (F:Nat) (aL:List aO) (dM:Method):Nat->Int->Option (Way (Int) (Unit))
 | 0,_=>none
 | uP+ 1,o6=>
   cond (decide (o6 <(dM.bN.length:Int))) ((idx dM.bN o6).bind fun Ok=>
   (om F aL Ok.aO).bind fun XS=>
   cond (decide (XS < 0)) (some (.out 5)) (wV F aL dM uP (av (o6+ 1)))) (some (.go ()))
def wU (F:Nat) (aL:List aO) (fC:Int):Nat->Int->Option (Way (Int) (Unit))
 | 0,_=>none
 | sL+ 1,kT=>
   (idx aL fC).bind fun rY=>
   cond (decide (kT <(rY.aU.length:Int))) (eh (α:=Unit) ((idx aL fC).bind fun vW=>
   (idx vW.aU kT).bind fun dM=>
   (zC F aL dM.bK).bind fun Nk=>
   cond (!Nk) (some (.out 5)) ((zC F aL [(⟨dM.Returns.Kind,dM.Returns.aO⟩:Kind)]).bind fun XR=>
   cond (!XR) (some (.out 5)) (eh (α:=Unit) (wV F aL dM F 0) fun (_:Unit)=>
   some (.go ())))) fun (_:Unit)=>
   wU F aL fC sL (av (kT+ 1))) (some (.go ()))
def tz (F:Nat) (aL:List aO):Nat->Int->Option (Way (Int) (Unit))
 | 0,_=>none
 | h8+ 1,fC=>
   cond (decide (fC <(aL.length:Int))) (eh (α:=Unit) (eh (α:=Unit) (wT F aL fC F 0) fun (_:Unit)=>
   eh (α:=Unit) (wU F aL fC F 0) fun (_:Unit)=>
   some (.go ())) fun (_:Unit)=>
   tz F aL h8 (av (fC+ 1))) (some (.go ()))
def wL (eZ:List Field) (iO:Int):Nat->Int->Option (Way (Int) (Unit))
 | 0,_=>none
 | Ms+ 1,nV=>
   cond (decide (nV <iO)) ((idx eZ nV).bind fun OL=>
   (idx eZ iO).bind fun Y_=>
   cond (decide (OL.Name=Y_.Name)) (some (.out 6)) (wL eZ iO Ms (av (nV+ 1)))) (some (.go ()))
def wK (F:Nat) (eZ:List Field):Nat->Int->Option (Way (Int) (Unit))
 | 0,_=>none
 | Mr+ 1,iO=>
   cond (decide (iO <(eZ.length:Int))) (eh (α:=Unit) (eh (α:=Unit) (wL eZ iO F 0) fun (_:Unit)=>
   some (.go ())) fun (_:Unit)=>
   wK F eZ Mr (av (iO+ 1))) (some (.go ()))
def wN (gV:aO) (ji:Int):Nat->Int->Option (Way (Int) (Unit))
 | 0,_=>none
 | Mu+ 1,o8=>
   cond (decide (o8 <ji)) ((idx gV.aU o8).bind fun Eh=>
   (idx gV.aU ji).bind fun Jr=>
   cond (decide (Eh.Name=Jr.Name)) (some (.out 6)) (wN gV ji Mu (av (o8+ 1)))) (some (.go ()))
def wM (F:Nat) (gV:aO):Nat->Int->Option (Way (Int) (Unit))
 | 0,_=>none
 | Mt+ 1,ji=>
   cond (decide (ji <(gV.aU.length:Int))) (eh (α:=Unit) (eh (α:=Unit) (wN gV ji F 0) fun (_:Unit)=>
   some (.go ())) fun (_:Unit)=>
   wM F gV Mt (av (ji+ 1))) (some (.go ()))
def wW (F:Nat) (aL:List aO):Nat->Int->Option (Way (Int) (Unit))
 | 0,_=>none
 | sM+ 1,ho=>
   cond (decide (ho <(aL.length:Int))) (eh (α:=Unit) ((zx F aL ho).bind fun eZ=>
   eh (α:=Unit) (wK F eZ F 0) fun (_:Unit)=>
   (idx aL ho).bind fun gV=>
   eh (α:=Unit) (wM F gV F 0) fun (_:Unit)=>
   some (.go ())) fun (_:Unit)=>
   wW F aL sM (av (ho+ 1))) (some (.go ()))
def tw (F:Nat) (aL:List aO) (fh:Int) (fz:List Int) (gi:Int) (ic:Int):Nat->Int->Option (Way (Int) (Unit))
 | 0,_=>none
 | Io+ 1,kD=>
   (idx fz gi).bind fun O6=>
   (idx aL O6).bind fun Jw=>
   cond (decide (kD <(Jw.aU.length:Int))) ((idx aL fh).bind fun Bu=>
   (idx Bu.aU ic).bind fun fQ=>
   (idx fz gi).bind fun O7=>
   (idx aL O7).bind fun Bv=>
   (idx Bv.aU kD).bind fun fR=>
   cond (decide (fQ.Name=fR.Name)) (cond (fQ.Static || fR.Static) (some (.out 4)) ((tD F fQ.bK fR.bK).bind fun NF=>
   cond (!NF) (some (.out 4)) (cond (!decide ((⟨fQ.Returns.Kind,fQ.Returns.aO⟩:Kind)=(⟨fR.Returns.Kind,fR.Returns.aO⟩:Kind))) (some (.out 4)) (tw F aL fh fz gi ic Io (av (kD+ 1)))))) (tw F aL fh fz gi ic Io (av (kD+ 1)))) (some (.go ()))
def wQ (F:Nat) (aL:List aO) (fh:Int) (fz:List Int) (gi:Int):Nat->Int->Option (Way (Int) (Unit))
 | 0,_=>none
 | Mx+ 1,ic=>
   (idx aL fh).bind fun r3=>
   cond (decide (ic <(r3.aU.length:Int))) (eh (α:=Unit) (eh (α:=Unit) (tw F aL fh fz gi ic F 0) fun (_:Unit)=>
   some (.go ())) fun (_:Unit)=>
   wQ F aL fh fz gi Mx (av (ic+ 1))) (some (.go ()))
def wP (F:Nat) (aL:List aO) (fh:Int) (fz:List Int):Nat->Int->Option (Way (Int) (Unit))
 | 0,_=>none
 | Mw+ 1,gi=>
   cond (decide (gi <(av ((fz.length:Int) - 1)))) (eh (α:=Unit) (eh (α:=Unit) (wQ F aL fh fz gi F 0) fun (_:Unit)=>
   some (.go ())) fun (_:Unit)=>
   wP F aL fh fz Mw (av (gi+ 1))) (some (.go ()))
def wO (F:Nat) (aL:List aO):Nat->Int->Option (Way (Int) (Unit))
 | 0,_=>none
 | Mv+ 1,fh=>
   cond (decide (fh <(aL.length:Int))) (eh (α:=Unit) ((xc F aL fh).bind fun fz=>
   eh (α:=Unit) (wP F aL fh fz F 0) fun (_:Unit)=>
   some (.go ())) fun (_:Unit)=>
   wO F aL Mv (av (fh+ 1))) (some (.go ()))
def Fo (F:Nat) (aL:List aO):Option (Int):=
 (Fm F aL).bind fun ey=>
 cond (!decide (ey= 0)) (some ey) (dv (α:=Unit) (si F aL F 0) fun (_:Unit)=>
 (om F aL [79,98,106,101,99,116]).bind fun Nf=>
 cond (decide (Nf < 0)) (some 5) ((om F aL [69,114,114,111,114]).bind fun XK=>
 cond (decide (XK < 0)) (some 5) (dv (α:=Unit) (wR aL F 0) fun (_:Unit)=>
 dv (α:=Unit) (tx F aL F 0) fun (_:Unit)=>
 dv (α:=Unit) (wS F aL F 0) fun (_:Unit)=>
 (om F aL [69,114,114,111,114]).bind fun yV=>
 (zx F aL yV).bind fun cI=>
 (idx aL yV).bind fun dI=>
 cond ((!decide (dI.b2= [79,98,106,101,99,116])) || (decide ((cI.length:Int)= 0))) (some 4) ((idx cI 0).bind fun Za=>
 cond (!decide (Za.Kind.Kind= 1)) (some 4) (dv (α:=Unit) (tz F aL F 0) fun (_:Unit)=>
 dv (α:=Unit) (wW F aL F 0) fun (_:Unit)=>
 dv (α:=Unit) (wO F aL F 0) fun (_:Unit)=>
 some 0)))))
def qR (F:Nat) (aL:List aO):Nat->(List (List Target))->(List (List (List UInt8)))->(List (List Field))->(List Int)->Int->Option (Way (bt × Int) ((List (List Target)) × (List (List (List UInt8))) × (List (List Field)) × (List Int)))
 | 0,_,_,_,_,_=>none
 | bw+ 1,pT,pU,pV,pW,kA=>
   cond (decide (kA <(aL.length:Int))) ((zx F aL kA).bind fun vG=>
   (Fq F aL kA).bind fun ni=>
   cond ((decide (12 <(vG.length:Int))) || (decide (16 <(ni.1.length:Int)))) (some (.out ((⟨[],[],[],[],[]⟩:bt),2))) ((idx aL kA).bind fun za=>
   (om F aL za.b2).bind fun IR=>
   (dU 8 pW [IR]).bind fun MB=>
   (dU 24 pV [vG]).bind fun MC=>
   (dU 24 pU [ni.1]).bind fun MD=>
   (dU 24 pT [ni.2]).bind fun ME=>
   qR F aL bw ME MD MC MB (av (kA+ 1)))) (some (.go (pT,pU,pV,pW)))
def Fp (F:Nat) (aL:List aO):Option (bt × Int):=
 (Fo F aL).bind fun ih=>
 cond (!decide (ih= 0)) (some ((⟨[],[],[],[],[]⟩:bt),ih)) (dv (α:=(List (List Target)) × (List (List (List UInt8))) × (List (List Field)) × (List Int)) (qR F aL F [] [] [] [] 0) fun ((pP,pQ,pR,pS):(List (List Target)) × (List (List (List UInt8))) × (List (List Field)) × (List Int))=>
 some ((⟨aL,pS,pR,pQ,pP⟩:bt),0))
end J
namespace Go.Proofs.YtpkhpagplommoaaGreat
open Go Go.RowKit a2
set_option maxHeartbeats 4000000
set_option maxRecDepth 20000
theorem ajy {W:World} {X:List Nat} {F:Nat} {aL:List J.aO} {r:Int} {ag:aT} {ah:Nat} {M0:List Nat} (hm:aw W M0 X W [] [U J.bc ag ah aL]) (h:J.Fo F aL=some r) :
 Calls Tryz.prog 109 [.q ag ah aL].toArray W (fun e aF=>e= .returned (.i r)/\aw W M0 X aF [] []):=by
 refine enter Tryz.func109 rfl Tryz.ntmps109 rfl fun a I=>?_;rw [J.Fo] at h;refine bd [] [] I fun a I=>wp_seq_k fun K bO=>aZ <| aN 1 [] [(29,.q ag ah aL)] I fun a I=>?_;obtain ⟨ey,AE,h⟩:=J.aI h;have hc:=hm;refine bR (vs:=[.q ag ah aL]) wn rfl Tryz.call135 ⟨(I.g rfl),trivial⟩ (ajw ((hc.into 0).pick ⟨⟨0,rfl⟩,trivial⟩) AE) I rfl rfl ?_;rintro _ w ⟨rfl,af⟩;refine ⟨_,rfl,fun a I=>?_⟩;have hm:=hc.back 0 af;clear af hc
 refine aN 1 [] [(3,.i ey)] I fun a I=>wpList_nil (bO _ _ ?_);refine wp_seq_k fun K cc=>bd [] [(32,.bool (!decide (ey= 0)))] I fun a I=>bn (I.g rfl) h (fun h7 h=>?_) (fun h7 h=>?_)
 · refine bu [] [(2,.i ey)] I fun a I=>wp_ret ?_;obtain rfl:=aC h;refine al <| bq Tryz.results109 I rfl ?_;exact ⟨rfl,hm.aX [] []⟩
 refine wp_skip <| cc _ _ <| wp_seq_k fun K dK=>bd [] [(4,.i 0)] I fun a I=>?_;obtain ⟨WG,h,T_⟩:=J.ei h;refine cd (fun a w=>Fr ⟨353,[]⟩ [(0,.q ag ah aL)] a/\aw W M0 X w [] [U J.bc ag ah aL]/\WG=(.go ())) (fun K cM=>?_) ?_
 · refine cB (fun (bw:Nat) a w=>∃ (eY:Int),Fr ⟨353,[]⟩ [(0,.q ag ah aL),(4,.i eY)] a/\aw W M0 X w [] [U J.bc ag ah aL]/\J.si F aL bw eY=some WG) F ⟨0,I.cut,hm,h⟩ ?_ ?_
   · rintro a w ⟨eY,I,hm,h⟩;exact absurd h (by simp [J.si])
   rintro bw a w ⟨eY,I,hm,h⟩ K dj;rw [J.si] at h;refine wp_seq_k fun K df=>bd [] [(37,.bool (decide (eY <(aL.length:Int))))] I fun a I=>bn (I.g rfl) h (fun Sh h=>?_) (fun Sh h=>?_)
   · refine wp_skip <| df _ _ <| wp_seq_k fun K dO=>wp_block <| wp_seq_k fun K dS=>aZ <| aN 3 [] [(40,.q ag ah aL),(41,.q ag ah aL),(42,.i eY)] I fun a I=>?_;obtain ⟨Em,aFj,h⟩:=J.aI h;obtain ⟨aou,azk,_,⟨aiv,ajr,aiw,aiU,rfl,au_,Su⟩,au3⟩:=b3 _ (hm.d 0 rfl) aFj;have hm:=hm.more (y:=U J.aW aiv ajr Em.Fields) au_;have hm:=hm.more (y:=U J.b' aiw aiU Em.aU) Su;refine bU wn (bI Tryz.underlying25 Tryz.sizeOf136 rfl (I.g rfl) (I.g rfl) aou azk) I rfl rfl fun a I=>?_
     refine bf 2 [0,0] [(45,ao Em.Name)] [bG ag,bH ag+(eY).toNat* 4 + 0] (ay au3 ax) I fun a I=>?_;obtain ⟨XI,aAA,h⟩:=J.aI h;have hc:=hm;refine bR (vs:=[.q ag ah aL,ao Em.Name]) wn rfl Tryz.call112 ⟨(I.g rfl),(I.g rfl),trivial⟩ (tX ((hc.into 0).pick ⟨⟨2,rfl⟩,trivial⟩) aAA) I rfl rfl ?_;rintro _ w ⟨rfl,af⟩;refine ⟨_,rfl,fun a I=>?_⟩;have hm:=hc.back 0 af;clear af hc;refine aN 2 [] [(48,.bool (!decide (XI=eY)))] I fun a I=>wpList_nil (dS _ _ ?_);refine bn (I.g rfl) h (fun R0 h=>?_) (fun R0 h=>?_)
     · refine bu [] [(2,.i 6)] I fun a I=>wp_ret ?_;obtain rfl:=aC h;obtain rfl:=aC T_;refine a' (al (al (a' (al (al ?_)))));refine bq Tryz.results109 I rfl ?_;exact ⟨rfl,hm.aX [] []⟩
     refine wp_skip <| dO _ _ <| cg [] [(4,.i (J.av (eY+ 1)))] I fun a I=>?_;exact dj _ _ ⟨J.av (eY+ 1),I.cut,hm.eg [2],h⟩
   refine wp_exit <| bC (bC (cv ?_));exact cM _ _ ⟨I.cut,hm,(os h)⟩
 rintro a w ⟨I,hm,bb⟩;subst WG;have h:=T_;clear T_;dsimp only [J.ec] at h;refine dK _ _ <| wp_seq_k fun K fa=>wp_seq_k fun K gE=>aZ <| aN 1 [] [(49,.q ag ah aL)] I fun a I=>?_;obtain ⟨Nf,aAC,h⟩:=J.aI h;have hc:=hm;refine bR (vs:=[.q ag ah aL,ao [79,98,106,101,99,116]]) wn rfl Tryz.call112 ⟨(I.g rfl),(c0 _ _),trivial⟩ (tX ((hc.into 0).pick ⟨⟨0,rfl⟩,trivial⟩) aAC) I rfl rfl ?_;rintro _ w ⟨rfl,af⟩;refine ⟨_,rfl,fun a I=>?_⟩;have hm:=hc.back 0 af;clear af hc;refine aN 2 [] [(52,.bool (decide (Nf < 0)))] I fun a I=>?_
 rcases Bool.eq_false_or_eq_true (decide (Nf < 0)) with Gy | Gy
 · have h:=J.c5 Gy h;have I:=I.b1 52 rfl Gy;refine aN 4 [1,1,1,1] [(56,.bool true)] I fun a I=>wpList_nil (gE _ _ ?_);refine eJ (I.g rfl) rfl <| bu [] [(2,.i 5)] I fun a I=>wp_ret ?_;obtain rfl:=aC h;refine al <| bq Tryz.results109 I rfl ?_;exact ⟨rfl,hm.aX [] []⟩
 have h:=J.c4 Gy h;have I:=I.b1 52 rfl Gy;refine aN 1 [1] [(53,.q ag ah aL)] I fun a I=>?_;obtain ⟨XK,aAG,h⟩:=J.aI h;have hc:=hm;refine bR (vs:=[.q ag ah aL,ao [69,114,114,111,114]]) (cS I rfl rfl rfl rfl) rfl Tryz.call112 ⟨(I.g rfl),(c0 _ _),trivial⟩ (tX ((hc.into 0).pick ⟨⟨0,rfl⟩,trivial⟩) aAG) I rfl rfl ?_;rintro _ w ⟨rfl,af⟩;refine ⟨_,rfl,fun a I=>?_⟩;have hm:=hc.back 0 af;clear af hc;refine aN 2 [1,1] [(56,.bool (decide (XK < 0)))] I fun a I=>wpList_nil (gE _ _ ?_);refine bn (I.g rfl) h (fun apJ h=>?_) (fun apJ h=>?_)
 · refine bu [] [(2,.i 5)] I fun a I=>wp_ret ?_;obtain rfl:=aC h;refine al <| bq Tryz.results109 I rfl ?_;exact ⟨rfl,hm.aX [] []⟩
 refine wp_skip <| fa _ _ <| wp_seq_k fun K fN=>bd [] [(5,.i 0)] I fun a I=>?_;obtain ⟨VT,h,Tj⟩:=J.ei h;refine cd (fun a w=>Fr ⟨353,[]⟩ [(0,.q ag ah aL)] a/\aw W M0 X w [] [U J.bc ag ah aL]/\VT=(.go ())) (fun K gv=>?_) ?_
 · refine cB (fun (c7:Nat) a w=>∃ (l7:Int),Fr ⟨353,[]⟩ [(0,.q ag ah aL),(5,.i l7)] a/\aw W M0 X w [] [U J.bc ag ah aL]/\J.wR aL c7 l7=some VT) F ⟨0,I.cut,hm,h⟩ ?_ ?_
   · rintro a w ⟨l7,I,hm,h⟩;exact absurd h (by simp [J.wR])
   rintro c7 a w ⟨l7,I,hm,h⟩ K gQ;rw [J.wR] at h;refine wp_seq_k fun K hM=>bd [] [(60,.bool (decide (l7 <(aL.length:Int))))] I fun a I=>bn (I.g rfl) h (fun aqB h=>?_) (fun aqB h=>?_)
   · refine wp_skip <| hM _ _ <| wp_seq_k fun K hA=>wp_block <| wp_seq_k fun K hB=>h5 (by kernel_rfl) (by kernel_rfl) <| dQ 2 [] [(63,.q ag ah aL),(64,.i l7)] [] (fun a5 ad=>ax) I fun a I=>?_;obtain ⟨Eb,aDA,h⟩:=J.aI h;obtain ⟨amA,axs,_,⟨ah6,ai3,BN,Cu,rfl,avC,avD⟩,as7⟩:=b3 _ (hm.d 0 rfl) aDA;have hm:=hm.more (y:=U J.aW ah6 ai3 Eb.Fields) avC;have hm:=hm.more (y:=U J.b' BN Cu Eb.aU) avD;refine eK wn (fun a5 ad=>bI Tryz.underlying25 Tryz.sizeOf136 rfl (I.g rfl) (I.g rfl) amA axs) I rfl rfl fun a I=>?_
     refine dQ 5 [0,0] [(68,.bool (decide (Eb.Name= [79,98,106,101,99,116]))),(69,.q ag ah aL),(70,.i l7)] [bG ag,bH ag+(l7).toNat* 4 + 0] (fun a5 ad=>(ay (b6 ad as7) ax)) I fun a I=>?_;obtain ⟨Jn,aDD,h⟩:=J.aI h;obtain ⟨amE,axv,_,⟨ah7,ai4,ah8,ai5,rfl,avE,avF⟩,as'⟩:=b3 _ (hm.d 2 rfl) aDD;have hm:=hm.more (y:=U J.aW ah7 ai4 Jn.Fields) avE;have hm:=hm.more (y:=U J.b' ah8 ai5 Jn.aU) avF;refine eK wn (fun a5 ad=>bI Tryz.underlying25 Tryz.sizeOf136 rfl (I.g rfl) (I.g rfl) amE axv) I rfl rfl fun a I=>?_
     refine dQ 4 [0,1] [(75,.bool (!((decide (Eb.Name= [79,98,106,101,99,116])) == (decide (Jn.b2= [])))))] [bG ag,bH ag+(l7).toNat* 4 + 1] (fun a5 ad=>(ay (b6 ad as') ax)) I fun a I=>wpQuiet_nil fun w ad=>?_;have hm:=hm.dz ad;clear ad;refine hB _ _ <| bn (I.g rfl) h (fun R5 h=>?_) (fun R5 h=>?_)
     · refine bu [] [(2,.i 4)] I fun a I=>wp_ret ?_;obtain rfl:=aC h;obtain rfl:=aC Tj;refine a' (al (al (a' (al (al ?_)))));refine bq Tryz.results109 I rfl ?_;exact ⟨rfl,hm.aX [] []⟩
     refine wp_skip <| hA _ _ <| cg [] [(5,.i (J.av (l7+ 1)))] I fun a I=>?_;exact gQ _ _ ⟨J.av (l7+ 1),I.cut,hm.eg [4],h⟩
   refine wp_exit <| bC (bC (cv ?_));exact gv _ _ ⟨I.cut,hm,(os h)⟩
 rintro a w ⟨I,hm,bb⟩;subst VT;have h:=Tj;clear Tj;dsimp only [J.ec] at h;refine fN _ _ <| wp_seq_k fun K jM=>bd [] [(6,.i 0)] I fun a I=>?_;obtain ⟨Wh,h,TI⟩:=J.ei h;refine cd (fun a w=>Fr ⟨353,[]⟩ [(0,.q ag ah aL)] a/\aw W M0 X w [] [U J.bc ag ah aL]/\Wh=(.go ())) (fun K mI=>?_) ?_
 · refine cB (fun (eB:Nat) a w=>∃ (kC:Int),Fr ⟨353,[]⟩ [(0,.q ag ah aL),(6,.i kC)] a/\aw W M0 X w [] [U J.bc ag ah aL]/\J.tx F aL eB kC=some Wh) F ⟨0,I.cut,hm,h⟩ ?_ ?_
   · rintro a w ⟨kC,I,hm,h⟩;exact absurd h (by simp [J.tx])
   rintro eB a w ⟨kC,I,hm,h⟩ K jN;rw [J.tx] at h;refine wp_seq_k fun K jO=>bd [] [(79,.bool (decide (kC <(aL.length:Int))))] I fun a I=>bn (I.g rfl) h (fun aq_ h=>?_) (fun aq_ h=>?_)
   · refine wp_skip <| jO _ _ <| wp_seq_k fun K ko=>wp_block <| wp_seq_k fun K nL=>aZ <| aN 2 [] [(82,.q ag ah aL),(83,.i kC)] I fun a I=>?_;obtain ⟨Eg,aEd,h⟩:=J.aI h;obtain ⟨ani,ayb,_,⟨aie,ajb,aif,ajc,rfl,avQ,avR⟩,atS⟩:=b3 _ (hm.d 0 rfl) aEd;have hm:=hm.more (y:=U J.aW aie ajb Eg.Fields) avQ;have hm:=hm.more (y:=U J.b' aif ajc Eg.aU) avR;refine bU wn (bI Tryz.underlying25 Tryz.sizeOf136 rfl (I.g rfl) (I.g rfl) ani ayb) I rfl rfl fun a I=>?_
     refine bf 4 [0,1] [(88,.bool (!decide (Eg.b2= [])))] [bG ag,bH ag+(kC).toNat* 4 + 1] (ay atS ax) I fun a I=>?_;rcases Bool.eq_false_or_eq_true (!decide (Eg.b2= [])) with Hf | Hf
     · have h:=J.c5 Hf h;have I:=I.b1 88 rfl Hf;refine aN 3 [1,1,1] [(89,.q ag ah aL),(90,.q ag ah aL),(91,.i kC)] I fun a I=>?_;obtain ⟨Ei,aEi,h⟩:=J.aI h;obtain ⟨ano,aye,_,⟨aih,ajd,aii,aje,rfl,avS,avT⟩,atU⟩:=b3 _ (hm.d 2 rfl) aEi;have hm:=hm.more (y:=U J.aW aih ajd Ei.Fields) avS;have hm:=hm.more (y:=U J.b' aii aje Ei.aU) avT;refine bU (cS I rfl rfl rfl rfl) (bI Tryz.underlying25 Tryz.sizeOf136 rfl (I.g rfl) (I.g rfl) ano aye) I rfl rfl fun a I=>?_
       refine bf 2 [1,1,0,1] [(94,ao Ei.b2)] [bG ag,bH ag+(kC).toNat* 4 + 1] (ay atU ax) I fun a I=>?_;obtain ⟨Yc,aBH,h⟩:=J.aI h;have hc:=hm;refine bR (vs:=[.q ag ah aL,ao Ei.b2]) (cS I rfl rfl rfl rfl) rfl Tryz.call112 ⟨(I.g rfl),(I.g rfl),trivial⟩ (tX ((hc.into 0).pick ⟨⟨4,rfl⟩,trivial⟩) aBH) I rfl rfl ?_;rintro _ w ⟨rfl,af⟩;refine ⟨_,rfl,fun a I=>?_⟩;have hm:=hc.back 0 af;clear af hc;refine aN 2 [1,1] [(97,.bool (decide (Yc < 0)))] I fun a I=>wpList_nil (nL _ _ ?_);refine bn (I.g rfl) h (fun arj h=>?_) (fun arj h=>?_)
       · refine bu [] [(2,.i 5)] I fun a I=>wp_ret ?_;obtain rfl:=aC h;obtain rfl:=aC TI;refine a' (al (al (a' (al (al ?_)))));refine bq Tryz.results109 I rfl ?_;exact ⟨rfl,hm.aX [] []⟩
       refine wp_skip <| ko _ _ <| cg [] [(6,.i (J.av (kC+ 1)))] I fun a I=>?_;exact jN _ _ ⟨J.av (kC+ 1),I.cut,hm.eg [4],h⟩
     have h:=J.c4 Hf h;have I:=I.b1 88 rfl Hf;refine aN 9 [1,1,1,1,1,1,1,1,1] [(97,.bool false)] I fun a I=>wpList_nil (nL _ _ ?_);refine g2 (I.g rfl) rfl <| wp_skip <| ko _ _ <| cg [] [(6,.i (J.av (kC+ 1)))] I fun a I=>?_;exact jN _ _ ⟨J.av (kC+ 1),I.cut,hm.eg [2],h⟩
   refine wp_exit <| bC (bC (cv ?_));exact mI _ _ ⟨I.cut,hm,(os h)⟩
 rintro a w ⟨I,hm,bb⟩;subst Wh;have h:=TI;clear TI;dsimp only [J.ec] at h;refine jM _ _ <| wp_seq_k fun K lW=>bd [] [(7,.i 0)] I fun a I=>?_;obtain ⟨Wr,h,TV⟩:=J.ei h;refine cd (fun a w=>Fr ⟨353,[]⟩ [(0,.q ag ah aL)] a/\aw W M0 X w [] [U J.bc ag ah aL]/\Wr=(.go ())) (fun K lX=>?_) ?_
 · refine cB (fun (fB:Nat) a w=>∃ (o9:Int),Fr ⟨353,[]⟩ [(0,.q ag ah aL),(7,.i o9)] a/\aw W M0 X w [] [U J.bc ag ah aL]/\J.wS F aL fB o9=some Wr) F ⟨0,I.cut,hm,h⟩ ?_ ?_
   · rintro a w ⟨o9,I,hm,h⟩;exact absurd h (by simp [J.wS])
   rintro fB a w ⟨o9,I,hm,h⟩ K mJ;rw [J.wS] at h;refine wp_seq_k fun K ra=>bd [] [(101,.bool (decide (o9 <(aL.length:Int))))] I fun a I=>bn (I.g rfl) h (fun R9 h=>?_) (fun R9 h=>?_)
   · refine wp_skip <| ra _ _ <| wp_seq_k fun K mK=>wp_block <| wp_seq_k fun K uf=>aZ <| aN 2 [] [(104,.q ag ah aL),(105,.i o9)] I fun a I=>?_;obtain ⟨Yg,aBM,h⟩:=J.aI h;have hc:=hm;refine bR (vs:=[.q ag ah aL,.i o9]) wn rfl Tryz.call136 ⟨(I.g rfl),(I.g rfl),trivial⟩ (Lp ((hc.into 0).pick ⟨⟨0,rfl⟩,trivial⟩) aBM) I rfl rfl ?_;rintro _ w ⟨aJ',aKr,rfl,af⟩;refine ⟨_,rfl,fun a I=>?_⟩;have hm:=hc.back 0 af;clear af hc;refine aN 2 [] [(108,.bool (decide ((Yg.length:Int)= 0)))] I fun a I=>wpList_nil (uf _ _ ?_)
     refine bn (I.g rfl) h (fun arn h=>?_) (fun arn h=>?_)
     · refine bu [] [(2,.i 4)] I fun a I=>wp_ret ?_;obtain rfl:=aC h;obtain rfl:=aC TV;refine a' (al (al (a' (al (al ?_)))));refine bq Tryz.results109 I rfl ?_;exact ⟨rfl,hm.aX [] []⟩
     refine wp_skip <| mK _ _ <| cg [] [(7,.i (J.av (o9+ 1)))] I fun a I=>?_;exact mJ _ _ ⟨J.av (o9+ 1),I.cut,hm.eg [1],h⟩
   refine wp_exit <| bC (bC (cv ?_));exact lX _ _ ⟨I.cut,hm,(os h)⟩
 rintro a w ⟨I,hm,bb⟩;subst Wr;have h:=TV;clear TV;dsimp only [J.ec] at h;refine lW _ _ <| wp_seq_k fun K oN=>aZ <| aN 1 [] [(109,.q ag ah aL)] I fun a I=>?_;obtain ⟨yV,aBN,h⟩:=J.aI h;have hc:=hm;refine bR (vs:=[.q ag ah aL,ao [69,114,114,111,114]]) wn rfl Tryz.call112 ⟨(I.g rfl),(c0 _ _),trivial⟩ (tX ((hc.into 0).pick ⟨⟨0,rfl⟩,trivial⟩) aBN) I rfl rfl ?_;rintro _ w ⟨rfl,af⟩;refine ⟨_,rfl,fun a I=>?_⟩;have hm:=hc.back 0 af;clear af hc;refine aN 1 [] [(8,.i yV)] I fun a I=>wpList_nil (oN _ _ ?_)
 refine wp_seq_k fun K oO=>aZ <| aN 2 [] [(111,.q ag ah aL),(112,.i yV)] I fun a I=>?_;obtain ⟨cI,aBO,h⟩:=J.aI h;have hc:=hm;refine bR (vs:=[.q ag ah aL,.i yV]) wn rfl Tryz.call110 ⟨(I.g rfl),(I.g rfl),trivial⟩ (Q4 ((hc.into 0).pick ⟨⟨0,rfl⟩,trivial⟩) aBO) I rfl rfl ?_;rintro _ w ⟨fL,fV,dX,rfl,af⟩;refine ⟨_,rfl,fun a I=>?_⟩;have hm:=hc.back 0 af;clear af hc;refine aN 1 [] [(9,.q fL fV cI)] I fun a I=>wpList_nil (oO _ _ ?_);refine wp_seq_k fun K mL=>wp_seq_k fun K sC=>aZ ?_
 refine aN 2 [] [(114,.q ag ah aL),(115,.i yV)] I fun a I=>?_;obtain ⟨dI,aEp,h⟩:=J.aI h;obtain ⟨anu,ayl,_,⟨f',gb,ga,gd,rfl,avY,avZ⟩,at1⟩:=b3 _ (hm.d 1 rfl) aEp;have hm:=hm.more (y:=U J.aW f' gb dI.Fields) avY;have hm:=hm.more (y:=U J.b' ga gd dI.aU) avZ;refine bU wn (bI Tryz.underlying25 Tryz.sizeOf136 rfl (I.g rfl) (I.g rfl) anu ayl) I rfl rfl fun a I=>?_
 refine bf 9 [0,1,0,0,0,0] [(125,.bool ((!decide (dI.b2= [79,98,106,101,99,116])) || (decide ((cI.length:Int)= 0))))] [bG ag,bH ag+(yV).toNat* 4 + 1] (ay at1 ax) I fun a I=>?_;rcases Bool.eq_false_or_eq_true ((!decide (dI.b2= [79,98,106,101,99,116])) || (decide ((cI.length:Int)= 0))) with Hl | Hl
 · have h:=J.c5 Hl h;have I:=I.b1 125 rfl Hl;refine aN 7 [1,1,1,1,1,1,1] [(132,.bool true)] I fun a I=>wpList_nil (sC _ _ ?_);refine eJ (I.g rfl) rfl <| bu [] [(2,.i 4)] I fun a I=>wp_ret ?_;obtain rfl:=aC h;refine al <| bq Tryz.results109 I rfl ?_;exact ⟨rfl,hm.aX [] []⟩
 have h:=J.c4 Hl h;have I:=I.b1 125 rfl Hl;refine aN 1 [1] [(126,.q fL fV cI)] I fun a I=>?_;obtain ⟨Za,aEr,h⟩:=J.aI h;obtain ⟨anw,ayn,_,rfl,at4⟩:=gk (hm.e 0 rfl) (hm.d 2 rfl) aEr;refine bU (cS I rfl rfl rfl rfl) (bI Tryz.underlying106 Tryz.sizeOf105 rfl (I.g rfl) (c0 _ _) anw ayn) I rfl rfl fun a I=>bf 5 [1,1,1,0,1,1,1] [(132,.bool (!decide (Za.Kind.Kind= 1)))] [bG fL,bH fL+(0 :Int).toNat* 3 + 1 + 0] (ay at4 ax) I fun a I=>wpList_nil (sC _ _ ?_);refine bn (I.g rfl) h (fun ars h=>?_) (fun ars h=>?_)
 · refine bu [] [(2,.i 4)] I fun a I=>wp_ret ?_;obtain rfl:=aC h;refine al <| bq Tryz.results109 I rfl ?_;exact ⟨rfl,hm.aX [] []⟩
 refine wp_skip <| mL _ _ <| wp_seq_k fun K sD=>bd [] [(10,.i 0)] I fun a I=>?_;obtain ⟨W3,h,Dg⟩:=J.ei h;refine cd (fun a w=>Fr ⟨353,[]⟩ [(0,.q ag ah aL)] a/\aw W M0 X w [ap.row 105 3 (.q fL fV cI) cI dX] [U J.b' ga gd dI.aU,U J.aW f' gb dI.Fields,ak.rows J.aW dX cI,U J.bc ag ah aL]/\W3=(.go ())) (fun K xR=>?_) ?_
 · refine cB (fun (h8:Nat) a w=>∃ (fC:Int),Fr ⟨353,[]⟩ [(0,.q ag ah aL),(10,.i fC)] a/\aw W M0 X w [ap.row 105 3 (.q fL fV cI) cI dX] [U J.b' ga gd dI.aU,U J.aW f' gb dI.Fields,ak.rows J.aW dX cI,U J.bc ag ah aL]/\J.tz F aL h8 fC=some W3) F ⟨0,I.cut,hm,h⟩ ?_ ?_
   · rintro a w ⟨fC,I,hm,h⟩;exact absurd h (by simp [J.tz])
   rintro h8 a w ⟨fC,I,hm,h⟩ K uj;rw [J.tz] at h;refine wp_seq_k fun K Gv=>bd [] [(136,.bool (decide (fC <(aL.length:Int))))] I fun a I=>bn (I.g rfl) h (fun apZ h=>?_) (fun apZ h=>?_)
   · refine wp_skip <| Gv _ _ <| wp_seq_k fun K xS=>?_;obtain ⟨afg,h,Db⟩:=J.e3 h;refine cd (fun a w=>Fr ⟨353,[]⟩ [(0,.q ag ah aL),(10,.i fC)] a/\aw W M0 X w [ap.row 105 3 (.q fL fV cI) cI dX] [U J.b' ga gd dI.aU,U J.aW f' gb dI.Fields,ak.rows J.aW dX cI,U J.bc ag ah aL]/\afg=(.go ())) (fun K z1=>?_) ?_
     · refine wp_seq_k fun K uk=>bd [] [(11,.i 0)] I fun a I=>?_;obtain ⟨VN,h,Tc⟩:=J.e3 h;refine cd (fun a w=>Fr ⟨353,[]⟩ [(0,.q ag ah aL),(10,.i fC)] a/\aw W M0 X w [ap.row 105 3 (.q fL fV cI) cI dX] [U J.b' ga gd dI.aU,U J.aW f' gb dI.Fields,ak.rows J.aW dX cI,U J.bc ag ah aL]/\VN=(.go ())) (fun K z2=>?_) ?_
       · refine cB (fun (jS:Nat) a w=>∃ (m':Int),Fr ⟨353,[]⟩ [(0,.q ag ah aL),(10,.i fC),(11,.i m')] a/\aw W M0 X w [ap.row 105 3 (.q fL fV cI) cI dX] [U J.b' ga gd dI.aU,U J.aW f' gb dI.Fields,ak.rows J.aW dX cI,U J.bc ag ah aL]/\J.wT F aL fC jS m'=some VN) F ⟨0,I.cut,hm,h⟩ ?_ ?_
         · rintro a w ⟨m',I,hm,h⟩;exact absurd h (by simp [J.wT])
         rintro jS a w ⟨m',I,hm,h⟩ K xT;rw [J.wT] at h;refine wp_seq_k fun K Gw=>wp_seq_k fun K Gx=>aZ <| aN 3 [] [(139,.i m'),(140,.q ag ah aL),(141,.i fC)] I fun a I=>?_;obtain ⟨Jl,aDa,h⟩:=J.aI h;obtain ⟨al',aw3,_,⟨ah1,aiX,ah2,aiY,rfl,ave,avf⟩,asG⟩:=b3 _ (hm.d 3 rfl) aDa;have hm:=hm.more (y:=U J.aW ah1 aiX Jl.Fields) ave;have hm:=hm.more (y:=U J.b' ah2 aiY Jl.aU) avf;refine bU wn (bI Tryz.underlying25 Tryz.sizeOf136 rfl (I.g rfl) (I.g rfl) al' aw3) I rfl rfl fun a I=>?_
         refine bf 4 [0,2] [(146,.bool (decide (m' <(Jl.Fields.length:Int))))] [bG ag,bH ag+(fC).toNat* 4 + 2] (ay asG ax) I fun a I=>wpList_nil (Gx _ _ ?_);refine bn (I.g rfl) h (fun ap4 h=>?_) (fun ap4 h=>?_)
         · refine wp_skip <| Gw _ _ <| wp_seq_k fun K CW=>wp_block <| wp_seq_k fun K z5=>aZ <| ek 3 [] [(0,.q ag ah aL),(10,.i fC),(11,.i m'),(149,.q ag ah aL),(150,.q ag ah aL),(151,.i fC)] I fun a I=>?_;obtain ⟨Jm,aDb,h⟩:=J.aI h;obtain ⟨ama,aw4,_,⟨JW,aa',ah3,aiZ,rfl,avg,avh⟩,asH⟩:=b3 _ (hm.d 5 rfl) aDb;have hm:=hm.more (y:=U J.aW JW aa' Jm.Fields) avg;have hm:=hm.more (y:=U J.b' ah3 aiZ Jm.aU) avh
           refine bU wn (bI Tryz.underlying25 Tryz.sizeOf136 rfl (I.g rfl) (I.g rfl) ama aw4) I rfl rfl fun a I=>bf 3 [0,2] [(154,.q JW aa' Jm.Fields),(155,.i m')] [bG ag,bH ag+(fC).toNat* 4 + 2] (ay asH ax) I fun a I=>?_;obtain ⟨n_,aDc,h⟩:=J.aI h;obtain ⟨amb,aw5,_,rfl,asI⟩:=b3 _ (hm.d 1 rfl) aDc;refine bU wn (bI Tryz.underlying106 Tryz.sizeOf105 rfl (I.g rfl) (I.g rfl) amb aw5) I rfl rfl fun a I=>bf 2 [0,1] [(158,.agg #[.i n_.Kind.Kind,ao n_.Kind.aO])] [bG JW,bH JW+(m').toNat* 3 + 1] (ay asI ax) I fun a I=>?_
           refine gy (cs:=[.i n_.Kind.Kind,ao n_.Kind.aO]) wn (fU (vs:=[(0,.agg #[.i n_.Kind.Kind,ao n_.Kind.aO])]) Tryz.underlying130 Tryz.sizeOf103 Tryz.zeroValue103 rfl rfl rfl ⟨⟨(I.g rfl),rfl⟩,trivial⟩ (by kernel_rfl)) I hm rfl rfl fun a alz w _ I hm=>?_;obtain ⟨XP,aAR,h⟩:=J.aI h;have hc:=hm;have az:=(hc.jC (sz:=2) 0 [n_.Kind] rfl rfl rfl rfl).more (y:=ak.rows J.dw [.i n_.Kind.Kind,ao n_.Kind.aO] [n_.Kind]) ⟨_,_,rfl,rfl,rfl⟩;have az:=az.freeze 0 0 rfl rfl
           refine bR (vs:=[.q ag ah aL,.slice (some ⟨alz,0,none⟩) 1 1]) wn rfl Tryz.call137 ⟨(I.g rfl),(I.g rfl),trivial⟩ (Q5 (kinds_:=[n_.Kind]) ((az.into 0).pick ⟨⟨9,rfl⟩,⟨0,rfl⟩,trivial⟩) aAR) I rfl rfl ?_;rintro _ w ⟨rfl,af⟩;refine ⟨_,rfl,fun a I=>?_⟩;have ad:a7 [] _ w:=af.ev;have hm:=hc.fS 0 (by exact trivial) af;clear af hc az;clear ad;refine aN 1 [] [(161,.bool (!XP))] I fun a I=>wpList_nil (z5 _ _ ?_);refine bn (I.g rfl) h (fun ap5 h=>?_) (fun ap5 h=>?_)
           · refine bu [] [(2,.i 5)] I fun a I=>wp_ret ?_;obtain rfl:=aC h;obtain rfl:=aC Tc;obtain rfl:=aC Db;obtain rfl:=aC Dg;refine a' (al (al (a' (al (al (a' (al (al (al (a' (al (al ?_))))))))))));refine bq Tryz.results109 I rfl ?_;exact ⟨rfl,hm.aX [] []⟩
           refine wp_skip <| CW _ _ <| cg [] [(11,.i (J.av (m'+ 1)))] I fun a I=>?_;exact xT _ _ ⟨J.av (m'+ 1),I.cut,hm.aX [1] [4,5,6,7],h⟩
         refine wp_exit <| bC (bC (cv ?_));exact z2 _ _ ⟨I.cut,hm.eg [2,3,4,5],(os h)⟩
       rintro a w ⟨I,hm,bb⟩;subst VN;have h:=Tc;clear Tc;dsimp only [J.eV] at h;refine uk _ _ <| bd [] [(12,.i 0)] I fun a I=>?_;obtain ⟨VP,h,HJ⟩:=J.e3 h;refine cd (fun a w=>Fr ⟨353,[]⟩ [(0,.q ag ah aL),(10,.i fC)] a/\aw W M0 X w [ap.row 105 3 (.q fL fV cI) cI dX] [U J.b' ga gd dI.aU,U J.aW f' gb dI.Fields,ak.rows J.aW dX cI,U J.bc ag ah aL]/\VP=(.go ())) (fun K RL=>?_) ?_
       · refine cB (fun (sL:Nat) a w=>∃ (kT:Int),Fr ⟨353,[]⟩ [(0,.q ag ah aL),(10,.i fC),(12,.i kT)] a/\aw W M0 X w [ap.row 105 3 (.q fL fV cI) cI dX] [U J.b' ga gd dI.aU,U J.aW f' gb dI.Fields,ak.rows J.aW dX cI,U J.bc ag ah aL]/\J.wU F aL fC sL kT=some VP) F ⟨0,I.cut,hm,h⟩ ?_ ?_
         · rintro a w ⟨kT,I,hm,h⟩;exact absurd h (by simp [J.wU])
         rintro sL a w ⟨kT,I,hm,h⟩ K api;rw [J.wU] at h;refine wp_seq_k fun K RM=>wp_seq_k fun K LS=>aZ <| aN 3 [] [(162,.i kT),(163,.q ag ah aL),(164,.i fC)] I fun a I=>?_;obtain ⟨rY,aDj,h⟩:=J.aI h;obtain ⟨ami,axa,_,⟨J0,KN,J1,KO,rfl,avi,avj⟩,asQ⟩:=b3 _ (hm.d 3 rfl) aDj;have hm:=hm.more (y:=U J.aW J0 KN rY.Fields) avi;have hm:=hm.more (y:=U J.b' J1 KO rY.aU) avj;refine bU wn (bI Tryz.underlying25 Tryz.sizeOf136 rfl (I.g rfl) (I.g rfl) ami axa) I rfl rfl fun a I=>?_
         refine bf 4 [0,3] [(169,.bool (decide (kT <(rY.aU.length:Int))))] [bG ag,bH ag+(fC).toNat* 4 + 3] (ay asQ ax) I fun a I=>wpList_nil (LS _ _ ?_);refine bn (I.g rfl) h (fun aqb h=>?_) (fun aqb h=>?_)
         · refine wp_skip <| RM _ _ <| wp_seq_k fun K RN=>?_;obtain ⟨afi,h,HK⟩:=J.e3 h;refine cd (fun a w=>Fr ⟨353,[]⟩ [(0,.q ag ah aL),(10,.i fC),(12,.i kT)] a/\aw W M0 X w [ap.row 105 3 (.q fL fV cI) cI dX] [U J.b' J1 KO rY.aU,U J.aW J0 KN rY.Fields,U J.b' ga gd dI.aU,U J.aW f' gb dI.Fields,ak.rows J.aW dX cI,U J.bc ag ah aL]/\afi=(.go ())) (fun K RO=>?_) ?_
           · refine wp_seq_k fun K LU=>aZ <| ek 2 [] [(0,.q ag ah aL),(10,.i fC),(12,.i kT),(172,.q ag ah aL),(173,.i fC)] I fun a I=>?_;obtain ⟨vW,aDk,h⟩:=J.aI h;obtain ⟨amj,axb,_,⟨P3,QH,BK,KP,rfl,avk,avl⟩,asR⟩:=b3 _ (hm.d 5 rfl) aDk;have hm:=hm.more (y:=U J.aW P3 QH vW.Fields) avk;have hm:=hm.more (y:=U J.b' BK KP vW.aU) avl;refine bU wn (bI Tryz.underlying25 Tryz.sizeOf136 rfl (I.g rfl) (I.g rfl) amj axb) I rfl rfl fun a I=>?_
             refine bf 3 [0,3] [(176,.q BK KP vW.aU),(177,.i kT)] [bG ag,bH ag+(fC).toNat* 4 + 3] (ay asR ax) I fun a I=>?_;obtain ⟨dM,aDl,h⟩:=J.aI h;obtain ⟨amk,axc,_,⟨th,tN,r9,xn,rfl,avm,avn⟩,asS⟩:=b3 _ (hm.d 0 rfl) aDl;have hm:=hm.more (y:=U J.dw th tN dM.bK) avm;have hm:=hm.more (y:=U J.er r9 xn dM.bN) avn;refine bU wn (bI Tryz.underlying134 Tryz.sizeOf133 rfl (I.g rfl) (I.g rfl) amk axc) I rfl rfl fun a I=>?_
             refine bf 1 [0,0] [(179,.agg #[ao dM.Name,.bool dM.Static,.q th tN dM.bK,.i dM.Returns.Kind,ao dM.Returns.aO,.i dM.cY,.i dM.cX,ao dM.Code,.q r9 xn dM.bN])] [bG BK,bH BK+(kT).toNat* 9] (ay asS ax) I fun a I=>cz (cs:=[ao [],.bool false,.slice none 0 0,.i 0,ao [],.i 0,.i 0,ao [],.slice none 0 0]) wn (eL Tryz.zeroValue133 rfl rfl) I hm rfl rfl fun a zT w _ I hm=>?_
             refine cA (vs:=[ao dM.Name,.bool dM.Static,.q th tN dM.bK,.i dM.Returns.Kind,ao dM.Returns.aO,.i dM.cY,.i dM.cX,ao dM.Code,.q r9 xn dM.bN]) 0 hm rfl wn rfl Tryz.sizeOf133 rfl rfl rfl rfl (I.g rfl) (I.g rfl) rfl fun w hm=>wpList_nil <| LU _ _ <| wp_seq_k fun K z6=>wp_seq_k fun K adC=>aZ <| bf 3 [0,2] [(180,.q ag ah aL),(182,.q th tN dM.bK)] [zT,2] (ay (a1 (hm.e 0 rfl)) ax) I fun a I=>?_;obtain ⟨Nk,aAX,h⟩:=J.aI h;have hc:=hm
             refine bR (vs:=[.q ag ah aL,.q th tN dM.bK]) wn rfl Tryz.call137 ⟨(I.g rfl),(I.g rfl),trivial⟩ (Q5 ((hc.into 0).pick ⟨⟨9,rfl⟩,⟨1,rfl⟩,trivial⟩) aAX) I rfl rfl ?_;rintro _ w ⟨rfl,af⟩;refine ⟨_,rfl,fun a I=>?_⟩;have hm:=hc.back 0 af;clear af hc;refine aN 2 [] [(185,.bool (!Nk))] I fun a I=>?_;rcases Bool.eq_false_or_eq_true (!Nk) with GK | GK
             · have h:=J.c5 GK h;have I:=I.b1 185 rfl GK;refine aN 7 [1,1,1,1,1,1,1] [(192,.bool true)] I fun a I=>wpList_nil (adC _ _ ?_);refine eJ (I.g rfl) rfl <| bu [] [(2,.i 5)] I fun a I=>wp_ret ?_;obtain rfl:=aC h;obtain rfl:=aC HK;obtain rfl:=aC HJ;obtain rfl:=aC Db;obtain rfl:=aC Dg;refine al (a' (al (al (al (a' (al (a' (al (al (al (a' (al (al ?_)))))))))))))
               refine bq Tryz.results109 I rfl ?_;exact ⟨rfl,hm.aX [] []⟩
             have h:=J.c4 GK h;have I:=I.b1 185 rfl GK;refine bf 3 [1,1,1,0,3] [(186,.q ag ah aL),(188,.agg #[.i dM.Returns.Kind,ao dM.Returns.aO])] [zT,3] (ay (a1 (hm.e 0 rfl)) ax) I fun a I=>gy (cs:=[.i dM.Returns.Kind,ao dM.Returns.aO]) (cS I rfl rfl rfl rfl) (fU (vs:=[(0,.agg #[.i dM.Returns.Kind,ao dM.Returns.aO])]) Tryz.underlying130 Tryz.sizeOf103 Tryz.zeroValue103 rfl rfl rfl ⟨⟨(I.g rfl),rfl⟩,trivial⟩ (by kernel_rfl)) I hm rfl rfl fun a Rw w _ I hm=>?_;obtain ⟨XR,aAY,h⟩:=J.aI h;have hc:=hm
             have az:=(hc.jC (sz:=2) 0 [dM.Returns] rfl rfl rfl rfl).more (y:=ak.rows J.dw [.i dM.Returns.Kind,ao dM.Returns.aO] [dM.Returns]) ⟨_,_,rfl,rfl,rfl⟩;have az:=az.freeze 0 0 rfl rfl;refine bR (vs:=[.q ag ah aL,.slice (some ⟨Rw,0,none⟩) 1 1]) (cS I rfl rfl rfl rfl) rfl Tryz.call137 ⟨(I.g rfl),(I.g rfl),trivial⟩ (Q5 (kinds_:=[dM.Returns]) ((az.into 0).pick ⟨⟨11,rfl⟩,⟨0,rfl⟩,trivial⟩) aAY) I rfl rfl ?_;rintro _ w ⟨rfl,af⟩;refine ⟨_,rfl,fun a I=>?_⟩;have ad:a7 [] _ w:=af.ev;have hm:=hc.fS 0 (by exact trivial) af
             clear af hc az;clear ad;refine aN 2 [1,1] [(192,.bool (!XR))] I fun a I=>wpList_nil (adC _ _ ?_);refine bn (I.g rfl) h (fun aqd h=>?_) (fun aqd h=>?_)
             · refine bu [] [(2,.i 5)] I fun a I=>wp_ret ?_;obtain rfl:=aC h;obtain rfl:=aC HK;obtain rfl:=aC HJ;obtain rfl:=aC Db;obtain rfl:=aC Dg;refine al (a' (al (al (al (a' (al (a' (al (al (al (a' (al (al ?_)))))))))))));refine bq Tryz.results109 I rfl ?_;exact ⟨rfl,hm.aX [] []⟩
             refine wp_skip <| z6 _ _ <| bd [] [(14,.i 0)] I fun a I=>?_;obtain ⟨VR,h,Tf⟩:=J.e3 h
             refine cd (fun a w=>Fr ⟨353,[]⟩ [(0,.q ag ah aL),(10,.i fC),(12,.i kT)] a/\aw W M0 X w [ap.bm Rw 103 [.i dM.Returns.Kind,ao dM.Returns.aO],ap.bm zT 133 [ao dM.Name,.bool dM.Static,.q th tN dM.bK,.i dM.Returns.Kind,ao dM.Returns.aO,.i dM.cY,.i dM.cX,ao dM.Code,.q r9 xn dM.bN],ap.row 105 3 (.q fL fV cI) cI dX] [U J.er r9 xn dM.bN,U J.dw th tN dM.bK,U J.b' BK KP vW.aU,U J.aW P3 QH vW.Fields,U J.b' J1 KO rY.aU,U J.aW J0 KN rY.Fields,U J.b' ga gd dI.aU,U J.aW f' gb dI.Fields,ak.rows J.aW dX cI,U J.bc ag ah aL]/\VR=(.go ())) (fun K apj=>?_) ?_
             · refine cB (fun (uP:Nat) a w=>∃ (o6:Int),Fr ⟨353,[]⟩ [(0,.q ag ah aL),(10,.i fC),(12,.i kT),(13,.aK zT),(14,.i o6)] a/\aw W M0 X w [ap.bm Rw 103 [.i dM.Returns.Kind,ao dM.Returns.aO],ap.bm zT 133 [ao dM.Name,.bool dM.Static,.q th tN dM.bK,.i dM.Returns.Kind,ao dM.Returns.aO,.i dM.cY,.i dM.cX,ao dM.Code,.q r9 xn dM.bN],ap.row 105 3 (.q fL fV cI) cI dX] [U J.er r9 xn dM.bN,U J.dw th tN dM.bK,U J.b' BK KP vW.aU,U J.aW P3 QH vW.Fields,U J.b' J1 KO rY.aU,U J.aW J0 KN rY.Fields,U J.b' ga gd dI.aU,U J.aW f' gb dI.Fields,ak.rows J.aW dX cI,U J.bc ag ah aL]/\J.wV F aL dM uP o6=some VR) F ⟨0,I.cut,hm,h⟩ ?_ ?_
               · rintro a w ⟨o6,I,hm,h⟩;exact absurd h (by simp [J.wV])
               rintro uP a w ⟨o6,I,hm,h⟩ K RP;rw [J.wV] at h;refine wp_seq_k fun K apk=>wp_seq_k fun K RQ=>eH [0,8] [(197,.bool (decide (o6 <(dM.bN.length:Int))))] [zT,8] (ay (a1 (hm.e 1 rfl)) ax) I fun a I=>RQ _ _ <| bn (I.g rfl) h (fun aqe h=>?_) (fun aqe h=>?_)
               · refine wp_skip <| apk _ _ <| wp_seq_k fun K RR=>wp_block <| wp_seq_k fun K RS=>aZ <| bf 4 [0,8] [(200,.q ag ah aL),(202,.q r9 xn dM.bN),(203,.i o6)] [zT,8] (ay (a1 (hm.e 1 rfl)) ax) I fun a I=>?_;obtain ⟨Ok,aDm,h⟩:=J.aI h;obtain ⟨aml,axd,_,rfl,asT⟩:=b3 _ (hm.d 0 rfl) aDm;refine bU wn (bI Tryz.underlying131 Tryz.sizeOf150 rfl (I.g rfl) (I.g rfl) aml axd) I rfl rfl fun a I=>bf 2 [0,3] [(206,ao Ok.aO)] [bG r9,bH r9+(o6).toNat* 4 + 3] (ay asT ax) I fun a I=>?_;obtain ⟨XS,aAZ,h⟩:=J.aI h;have hc:=hm
                 refine bR (vs:=[.q ag ah aL,ao Ok.aO]) wn rfl Tryz.call112 ⟨(I.g rfl),(I.g rfl),trivial⟩ (tX ((hc.into 0).pick ⟨⟨9,rfl⟩,trivial⟩) aAZ) I rfl rfl ?_;rintro _ w ⟨rfl,af⟩;refine ⟨_,rfl,fun a I=>?_⟩;have hm:=hc.back 0 af;clear af hc;refine aN 1 [] [(208,.bool (decide (XS < 0)))] I fun a I=>wpList_nil (RS _ _ ?_);refine bn (I.g rfl) h (fun aqf h=>?_) (fun aqf h=>?_)
                 · refine bu [] [(2,.i 5)] I fun a I=>wp_ret ?_;obtain rfl:=aC h;obtain rfl:=aC Tf;obtain rfl:=aC HK;obtain rfl:=aC HJ;obtain rfl:=aC Db;obtain rfl:=aC Dg;refine a' (al (al (a' (al (a' (al (al (al (a' (al (a' (al (al (al (a' (al (al ?_)))))))))))))))));refine bq Tryz.results109 I rfl ?_;exact ⟨rfl,hm.aX [] []⟩
                 refine wp_skip <| RR _ _ <| cg [] [(14,.i (J.av (o6+ 1)))] I fun a I=>?_;exact RP _ _ ⟨J.av (o6+ 1),I.cut,hm,h⟩
               refine wp_exit <| bC (bC (cv ?_));exact apj _ _ ⟨I.cut,hm,(os h)⟩
             rintro a w ⟨I,hm,bb⟩;subst VR;have h:=Tf;clear Tf;dsimp only [J.eV] at h;exact RO _ _ ⟨I.cut,hm.aX [2] [4,5,6,7,8,9],(os h)⟩
           rintro a w ⟨I,hm,bb⟩;subst afi;have h:=HK;clear HK;dsimp only [J.eV] at h;refine RN _ _ <| cg [] [(12,.i (J.av (kT+ 1)))] I fun a I=>?_;exact api _ _ ⟨J.av (kT+ 1),I.cut,hm.eg [2,3,4,5],h⟩
         refine wp_exit <| bC (bC (cv ?_));exact RL _ _ ⟨I.cut,hm.eg [2,3,4,5],(os h)⟩
       rintro a w ⟨I,hm,bb⟩;subst VP;have h:=HJ;clear HJ;dsimp only [J.eV] at h;exact z1 _ _ ⟨I.cut,hm,(os h)⟩
     rintro a w ⟨I,hm,bb⟩;subst afg;have h:=Db;clear Db;dsimp only [J.eV] at h;refine xS _ _ <| cg [] [(10,.i (J.av (fC+ 1)))] I fun a I=>?_;exact uj _ _ ⟨J.av (fC+ 1),I.cut,hm,h⟩
   refine wp_exit <| bC (bC (cv ?_));exact xR _ _ ⟨I.cut,hm,(os h)⟩
 rintro a w ⟨I,hm,bb⟩;subst W3;have h:=Dg;clear Dg;dsimp only [J.ec] at h;refine sD _ _ <| wp_seq_k fun K RT=>bd [] [(15,.i 0)] I fun a I=>?_;obtain ⟨V8,h,L7⟩:=J.ei h;refine cd (fun a w=>Fr ⟨353,[]⟩ [(0,.q ag ah aL)] a/\aw W M0 X w [ap.row 105 3 (.q fL fV cI) cI dX] [U J.b' ga gd dI.aU,U J.aW f' gb dI.Fields,ak.rows J.aW dX cI,U J.bc ag ah aL]/\V8=(.go ())) (fun K RU=>?_) ?_
 · refine cB (fun (sM:Nat) a w=>∃ (ho:Int),Fr ⟨353,[]⟩ [(0,.q ag ah aL),(15,.i ho)] a/\aw W M0 X w [ap.row 105 3 (.q fL fV cI) cI dX] [U J.b' ga gd dI.aU,U J.aW f' gb dI.Fields,ak.rows J.aW dX cI,U J.bc ag ah aL]/\J.wW F aL sM ho=some V8) F ⟨0,I.cut,hm,h⟩ ?_ ?_
   · rintro a w ⟨ho,I,hm,h⟩;exact absurd h (by simp [J.wW])
   rintro sM a w ⟨ho,I,hm,h⟩ K apm;rw [J.wW] at h;refine wp_seq_k fun K RV=>bd [] [(212,.bool (decide (ho <(aL.length:Int))))] I fun a I=>bn (I.g rfl) h (fun aqX h=>?_) (fun aqX h=>?_)
   · refine wp_skip <| RV _ _ <| wp_seq_k fun K RW=>?_;obtain ⟨aft,h,L_⟩:=J.e3 h;refine cd (fun a w=>Fr ⟨353,[]⟩ [(0,.q ag ah aL),(15,.i ho)] a/\aw W M0 X w [ap.row 105 3 (.q fL fV cI) cI dX] [U J.b' ga gd dI.aU,U J.aW f' gb dI.Fields,ak.rows J.aW dX cI,U J.bc ag ah aL]/\aft=(.go ())) (fun K apn=>?_) ?_
     · refine wp_seq_k fun K LV=>aZ <| aN 2 [] [(215,.q ag ah aL),(216,.i ho)] I fun a I=>?_;obtain ⟨eZ,aBA,h⟩:=J.aI h;have hc:=hm;refine bR (vs:=[.q ag ah aL,.i ho]) wn rfl Tryz.call110 ⟨(I.g rfl),(I.g rfl),trivial⟩ (Q4 ((hc.into 0).pick ⟨⟨3,rfl⟩,trivial⟩) aBA) I rfl rfl ?_;rintro _ w ⟨iV,kM,kb,rfl,af⟩;refine ⟨_,rfl,fun a I=>?_⟩;have hm:=hc.back 0 af;clear af hc;refine aN 1 [] [(16,.q iV kM eZ)] I fun a I=>wpList_nil (LV _ _ ?_);refine wp_seq_k fun K LW=>wp_seq_k fun K apo=>?_
       refine cg [] [(17,.i 0)] I fun a I=>apo _ _ ?_;obtain ⟨Wl,h,TK⟩:=J.e3 h;refine cd (fun a w=>Fr ⟨353,[]⟩ [(0,.q ag ah aL),(15,.i ho)] a/\aw W M0 X w [ap.row 105 3 (.q iV kM eZ) eZ kb,ap.row 105 3 (.q fL fV cI) cI dX] [ak.rows J.aW kb eZ,U J.b' ga gd dI.aU,U J.aW f' gb dI.Fields,ak.rows J.aW dX cI,U J.bc ag ah aL]/\Wl=(.go ())) (fun K aoA=>?_) ?_
       · refine cB (fun (Mr:Nat) a w=>∃ (iO:Int),Fr ⟨353,[]⟩ [(0,.q ag ah aL),(15,.i ho),(16,.q iV kM eZ),(17,.i iO)] a/\aw W M0 X w [ap.row 105 3 (.q iV kM eZ) eZ kb,ap.row 105 3 (.q fL fV cI) cI dX] [ak.rows J.aW kb eZ,U J.b' ga gd dI.aU,U J.aW f' gb dI.Fields,ak.rows J.aW dX cI,U J.bc ag ah aL]/\J.wK F eZ Mr iO=some Wl) F ⟨0,I.cut,hm,h⟩ ?_ ?_
         · rintro a w ⟨iO,I,hm,h⟩;exact absurd h (by simp [J.wK])
         rintro Mr a w ⟨iO,I,hm,h⟩ K aoB;rw [J.wK] at h;refine wp_seq_k fun K aoC=>bd [] [(221,.bool (decide (iO <(eZ.length:Int))))] I fun a I=>bn (I.g rfl) h (fun aq6 h=>?_) (fun aq6 h=>?_)
         · refine wp_skip <| aoC _ _ <| wp_seq_k fun K aoD=>?_;obtain ⟨afu,h,TL⟩:=J.e3 h;refine cd (fun a w=>Fr ⟨353,[]⟩ [(0,.q ag ah aL),(15,.i ho),(16,.q iV kM eZ),(17,.i iO)] a/\aw W M0 X w [ap.row 105 3 (.q iV kM eZ) eZ kb,ap.row 105 3 (.q fL fV cI) cI dX] [ak.rows J.aW kb eZ,U J.b' ga gd dI.aU,U J.aW f' gb dI.Fields,ak.rows J.aW dX cI,U J.bc ag ah aL]/\afu=(.go ())) (fun K aoE=>?_) ?_
           · refine bd [] [(18,.i 0)] I fun a I=>?_;obtain ⟨Wm,h,TM⟩:=J.e3 h;refine cd (fun a w=>Fr ⟨353,[]⟩ [(0,.q ag ah aL),(15,.i ho),(16,.q iV kM eZ),(17,.i iO)] a/\aw W M0 X w [ap.row 105 3 (.q iV kM eZ) eZ kb,ap.row 105 3 (.q fL fV cI) cI dX] [ak.rows J.aW kb eZ,U J.b' ga gd dI.aU,U J.aW f' gb dI.Fields,ak.rows J.aW dX cI,U J.bc ag ah aL]/\Wm=(.go ())) (fun K aoF=>?_) ?_
             · refine cB (fun (Ms:Nat) a w=>∃ (nV:Int),Fr ⟨353,[]⟩ [(0,.q ag ah aL),(15,.i ho),(16,.q iV kM eZ),(17,.i iO),(18,.i nV)] a/\aw W M0 X w [ap.row 105 3 (.q iV kM eZ) eZ kb,ap.row 105 3 (.q fL fV cI) cI dX] [ak.rows J.aW kb eZ,U J.b' ga gd dI.aU,U J.aW f' gb dI.Fields,ak.rows J.aW dX cI,U J.bc ag ah aL]/\J.wL eZ iO Ms nV=some Wm) F ⟨0,I.cut,hm,h⟩ ?_ ?_
               · rintro a w ⟨nV,I,hm,h⟩;exact absurd h (by simp [J.wL])
               rintro Ms a w ⟨nV,I,hm,h⟩ K aoG;rw [J.wL] at h;refine wp_seq_k fun K aoH=>bu [] [(0,.q ag ah aL),(15,.i ho),(16,.q iV kM eZ),(17,.i iO),(18,.i nV),(226,.bool (decide (nV <iO)))] I fun a I=>bn (I.g rfl) h (fun aq7 h=>?_) (fun aq7 h=>?_)
               · refine wp_skip <| aoH _ _ <| wp_seq_k fun K aoI=>wp_block <| wp_seq_k fun K aoJ=>h5 (by kernel_rfl) (by kernel_rfl) <| dQ 2 [] [(229,.q iV kM eZ),(230,.i nV)] [] (fun a5 ad=>ax) I fun a I=>?_;obtain ⟨OL,aD_,h⟩:=J.aI h;obtain ⟨anc,ax6,_,rfl,atJ⟩:=gk (hm.e 0 rfl) (hm.d 0 rfl) aD_;refine eK wn (fun a5 ad=>bI Tryz.underlying106 Tryz.sizeOf105 rfl (I.g rfl) (I.g rfl) anc ax6) I rfl rfl fun a I=>dQ 4 [0,0] [(233,ao OL.Name),(234,.q iV kM eZ),(235,.i iO)] [bG iV,bH iV+(nV).toNat* 3 + 0] (fun a5 ad=>(ay (b6 ad atJ) ax)) I fun a I=>?_
                 obtain ⟨Y_,aD',h⟩:=J.aI h;obtain ⟨ane,ax7,_,rfl,atK⟩:=gk (hm.e 0 rfl) (hm.d 0 rfl) aD';refine eK wn (fun a5 ad=>bI Tryz.underlying106 Tryz.sizeOf105 rfl (I.g rfl) (I.g rfl) ane ax7) I rfl rfl fun a I=>dQ 3 [0,0] [(239,.bool (decide (OL.Name=Y_.Name)))] [bG iV,bH iV+(iO).toNat* 3 + 0] (fun a5 ad=>(ay (b6 ad atK) ax)) I fun a I=>wpQuiet_nil fun w ad=>?_;have hm:=hm.dz ad;clear ad;refine aoJ _ _ <| bn (I.g rfl) h (fun aq8 h=>?_) (fun aq8 h=>?_)
                 · refine bu [] [(2,.i 6)] I fun a I=>wp_ret ?_;obtain rfl:=aC h;obtain rfl:=aC TM;obtain rfl:=aC TL;obtain rfl:=aC TK;obtain rfl:=aC L_;obtain rfl:=aC L7;refine a' (al (al (a' (al (a' (al (al (al (a' (al (al (a' (al (al (al (a' (al (al ?_))))))))))))))))));refine bq Tryz.results109 I rfl ?_;exact ⟨rfl,hm.aX [] []⟩
                 refine wp_skip <| aoI _ _ <| cg [] [(18,.i (J.av (nV+ 1)))] I fun a I=>?_;exact aoG _ _ ⟨J.av (nV+ 1),I.cut,hm,h⟩
               refine wp_exit <| bC (bC (cv ?_));exact aoF _ _ ⟨I.cut,hm,(os h)⟩
             rintro a w ⟨I,hm,bb⟩;subst Wm;have h:=TM;clear TM;dsimp only [J.eV] at h;exact aoE _ _ ⟨I.cut,hm,(os h)⟩
           rintro a w ⟨I,hm,bb⟩;subst afu;have h:=TL;clear TL;dsimp only [J.eV] at h;refine aoD _ _ <| cg [] [(17,.i (J.av (iO+ 1)))] I fun a I=>?_;exact aoB _ _ ⟨J.av (iO+ 1),I.cut,hm,h⟩
         refine wp_exit <| bC (bC (cv ?_));exact aoA _ _ ⟨I.cut,hm,(os h)⟩
       rintro a w ⟨I,hm,bb⟩;subst Wl;have h:=TK;clear TK;dsimp only [J.eV] at h;refine LW _ _ <| wp_seq_k fun K aoK=>aZ <| aN 2 [] [(240,.q ag ah aL),(241,.i ho)] I fun a I=>?_;obtain ⟨gV,aEa,h⟩:=J.aI h;obtain ⟨anf,ax8,_,⟨BR,Cz,k7,oG,rfl,avK,avL⟩,atL⟩:=b3 _ (hm.d 4 rfl) aEa;have hm:=hm.more (y:=U J.aW BR Cz gV.Fields) avK;have hm:=hm.more (y:=U J.b' k7 oG gV.aU) avL;refine bU wn (bI Tryz.underlying25 Tryz.sizeOf136 rfl (I.g rfl) (I.g rfl) anf ax8) I rfl rfl fun a I=>?_
       refine kH 3 [0,3] [(0,.q ag ah aL),(15,.i ho),(19,.q k7 oG gV.aU)] [bG ag,bH ag+(ho).toNat* 4 + 3] (ay atL ax) I fun a I=>wpList_nil (aoK _ _ ?_);refine bd [] [(20,.i 0)] I fun a I=>?_;obtain ⟨Wn,h,TP⟩:=J.e3 h
       refine cd (fun a w=>Fr ⟨353,[]⟩ [(0,.q ag ah aL),(15,.i ho)] a/\aw W M0 X w [ap.row 105 3 (.q iV kM eZ) eZ kb,ap.row 105 3 (.q fL fV cI) cI dX] [U J.b' k7 oG gV.aU,U J.aW BR Cz gV.Fields,ak.rows J.aW kb eZ,U J.b' ga gd dI.aU,U J.aW f' gb dI.Fields,ak.rows J.aW dX cI,U J.bc ag ah aL]/\Wn=(.go ())) (fun K aoL=>?_) ?_
       · refine cB (fun (Mt:Nat) a w=>∃ (ji:Int),Fr ⟨353,[]⟩ [(0,.q ag ah aL),(15,.i ho),(19,.q k7 oG gV.aU),(20,.i ji)] a/\aw W M0 X w [ap.row 105 3 (.q iV kM eZ) eZ kb,ap.row 105 3 (.q fL fV cI) cI dX] [U J.b' k7 oG gV.aU,U J.aW BR Cz gV.Fields,ak.rows J.aW kb eZ,U J.b' ga gd dI.aU,U J.aW f' gb dI.Fields,ak.rows J.aW dX cI,U J.bc ag ah aL]/\J.wM F gV Mt ji=some Wn) F ⟨0,I.cut,hm,h⟩ ?_ ?_
         · rintro a w ⟨ji,I,hm,h⟩;exact absurd h (by simp [J.wM])
         rintro Mt a w ⟨ji,I,hm,h⟩ K aoM;rw [J.wM] at h;refine wp_seq_k fun K aoN=>bd [] [(248,.bool (decide (ji <(gV.aU.length:Int))))] I fun a I=>bn (I.g rfl) h (fun aq' h=>?_) (fun aq' h=>?_)
         · refine wp_skip <| aoN _ _ <| wp_seq_k fun K aoO=>?_;obtain ⟨afw,h,TQ⟩:=J.e3 h
           refine cd (fun a w=>Fr ⟨353,[]⟩ [(0,.q ag ah aL),(15,.i ho),(19,.q k7 oG gV.aU),(20,.i ji)] a/\aw W M0 X w [ap.row 105 3 (.q iV kM eZ) eZ kb,ap.row 105 3 (.q fL fV cI) cI dX] [U J.b' k7 oG gV.aU,U J.aW BR Cz gV.Fields,ak.rows J.aW kb eZ,U J.b' ga gd dI.aU,U J.aW f' gb dI.Fields,ak.rows J.aW dX cI,U J.bc ag ah aL]/\afw=(.go ())) (fun K aoP=>?_) ?_
           · refine bd [] [(21,.i 0)] I fun a I=>?_;obtain ⟨Wo,h,TR⟩:=J.e3 h
             refine cd (fun a w=>Fr ⟨353,[]⟩ [(0,.q ag ah aL),(15,.i ho),(19,.q k7 oG gV.aU),(20,.i ji)] a/\aw W M0 X w [ap.row 105 3 (.q iV kM eZ) eZ kb,ap.row 105 3 (.q fL fV cI) cI dX] [U J.b' k7 oG gV.aU,U J.aW BR Cz gV.Fields,ak.rows J.aW kb eZ,U J.b' ga gd dI.aU,U J.aW f' gb dI.Fields,ak.rows J.aW dX cI,U J.bc ag ah aL]/\Wo=(.go ())) (fun K aoQ=>?_) ?_
             · refine cB (fun (Mu:Nat) a w=>∃ (o8:Int),Fr ⟨353,[]⟩ [(0,.q ag ah aL),(15,.i ho),(19,.q k7 oG gV.aU),(20,.i ji),(21,.i o8)] a/\aw W M0 X w [ap.row 105 3 (.q iV kM eZ) eZ kb,ap.row 105 3 (.q fL fV cI) cI dX] [U J.b' k7 oG gV.aU,U J.aW BR Cz gV.Fields,ak.rows J.aW kb eZ,U J.b' ga gd dI.aU,U J.aW f' gb dI.Fields,ak.rows J.aW dX cI,U J.bc ag ah aL]/\J.wN gV ji Mu o8=some Wo) F ⟨0,I.cut,hm,h⟩ ?_ ?_
               · rintro a w ⟨o8,I,hm,h⟩;exact absurd h (by simp [J.wN])
               rintro Mu a w ⟨o8,I,hm,h⟩ K aoR;rw [J.wN] at h;refine wp_seq_k fun K aoS=>bd [] [(253,.bool (decide (o8 <ji)))] I fun a I=>bn (I.g rfl) h (fun ara h=>?_) (fun ara h=>?_)
               · refine wp_skip <| aoS _ _ <| wp_seq_k fun K aoT=>wp_block <| wp_seq_k fun K aoU=>h5 (by kernel_rfl) (by kernel_rfl) <| dQ 2 [] [(256,.q k7 oG gV.aU),(257,.i o8)] [] (fun a5 ad=>ax) I fun a I=>?_;obtain ⟨Eh,aEe,h⟩:=J.aI h;obtain ⟨anj,ax',_,⟨aia,ai9,aib,ai_,rfl,avM,avN⟩,atP⟩:=b3 _ (hm.d 0 rfl) aEe;have hm:=hm.more (y:=U J.dw aia ai9 Eh.bK) avM;have hm:=hm.more (y:=U J.er aib ai_ Eh.bN) avN
                 refine eK wn (fun a5 ad=>bI Tryz.underlying134 Tryz.sizeOf133 rfl (I.g rfl) (I.g rfl) anj ax') I rfl rfl fun a I=>dQ 4 [0,0] [(260,ao Eh.Name),(261,.q k7 oG gV.aU),(262,.i ji)] [bG k7,bH k7+(o8).toNat* 9 + 0] (fun a5 ad=>(ay (b6 ad atP) ax)) I fun a I=>?_;obtain ⟨Jr,aEf,h⟩:=J.aI h;obtain ⟨ank,aya,_,⟨aic,ai',aid,aja,rfl,avO,avP⟩,atQ⟩:=b3 _ (hm.d 2 rfl) aEf;have hm:=hm.more (y:=U J.dw aic ai' Jr.bK) avO;have hm:=hm.more (y:=U J.er aid aja Jr.bN) avP
                 refine eK wn (fun a5 ad=>bI Tryz.underlying134 Tryz.sizeOf133 rfl (I.g rfl) (I.g rfl) ank aya) I rfl rfl fun a I=>dQ 3 [0,0] [(266,.bool (decide (Eh.Name=Jr.Name)))] [bG k7,bH k7+(ji).toNat* 9 + 0] (fun a5 ad=>(ay (b6 ad atQ) ax)) I fun a I=>wpQuiet_nil fun w ad=>?_;have hm:=hm.dz ad;clear ad;refine aoU _ _ <| bn (I.g rfl) h (fun arb h=>?_) (fun arb h=>?_)
                 · refine bu [] [(2,.i 6)] I fun a I=>wp_ret ?_;obtain rfl:=aC h;obtain rfl:=aC TR;obtain rfl:=aC TQ;obtain rfl:=aC TP;obtain rfl:=aC L_;obtain rfl:=aC L7;refine a' (al (al (a' (al (a' (al (al (al (a' (al (a' (al (al (al (a' (al (al ?_)))))))))))))))));refine bq Tryz.results109 I rfl ?_;exact ⟨rfl,hm.aX [] []⟩
                 refine wp_skip <| aoT _ _ <| cg [] [(21,.i (J.av (o8+ 1)))] I fun a I=>?_;exact aoR _ _ ⟨J.av (o8+ 1),I.cut,hm.eg [4,5,6,7,8,9,10],h⟩
               refine wp_exit <| bC (bC (cv ?_));exact aoQ _ _ ⟨I.cut,hm,(os h)⟩
             rintro a w ⟨I,hm,bb⟩;subst Wo;have h:=TR;clear TR;dsimp only [J.eV] at h;exact aoP _ _ ⟨I.cut,hm,(os h)⟩
           rintro a w ⟨I,hm,bb⟩;subst afw;have h:=TQ;clear TQ;dsimp only [J.eV] at h;refine aoO _ _ <| cg [] [(20,.i (J.av (ji+ 1)))] I fun a I=>?_;exact aoM _ _ ⟨J.av (ji+ 1),I.cut,hm,h⟩
         refine wp_exit <| bC (bC (cv ?_));exact aoL _ _ ⟨I.cut,hm,(os h)⟩
       rintro a w ⟨I,hm,bb⟩;subst Wn;have h:=TP;clear TP;dsimp only [J.eV] at h;exact apn _ _ ⟨I.cut,hm.aX [1] [3,4,5,6],(os h)⟩
     rintro a w ⟨I,hm,bb⟩;subst aft;have h:=L_;clear L_;dsimp only [J.eV] at h;refine RW _ _ <| cg [] [(15,.i (J.av (ho+ 1)))] I fun a I=>?_;exact apm _ _ ⟨J.av (ho+ 1),I.cut,hm,h⟩
   refine wp_exit <| bC (bC (cv ?_));exact RU _ _ ⟨I.cut,hm,(os h)⟩
 rintro a w ⟨I,hm,bb⟩;subst V8;have h:=L7;clear L7;dsimp only [J.ec] at h;refine RT _ _ <| wp_seq_k fun K aoV=>bd [] [(22,.i 0)] I fun a I=>?_;obtain ⟨Wq,h,HN⟩:=J.ei h;refine cd (fun a w=>Fr ⟨353,[]⟩ [] a/\aw W M0 X w [ap.row 105 3 (.q fL fV cI) cI dX] [U J.b' ga gd dI.aU,U J.aW f' gb dI.Fields,ak.rows J.aW dX cI,U J.bc ag ah aL]/\Wq=(.go ())) (fun K aoW=>?_) ?_
 · refine cB (fun (Mv:Nat) a w=>∃ (fh:Int),Fr ⟨353,[]⟩ [(0,.q ag ah aL),(22,.i fh)] a/\aw W M0 X w [ap.row 105 3 (.q fL fV cI) cI dX] [U J.b' ga gd dI.aU,U J.aW f' gb dI.Fields,ak.rows J.aW dX cI,U J.bc ag ah aL]/\J.wO F aL Mv fh=some Wq) F ⟨0,I.cut,hm,h⟩ ?_ ?_
   · rintro a w ⟨fh,I,hm,h⟩;exact absurd h (by simp [J.wO])
   rintro Mv a w ⟨fh,I,hm,h⟩ K aoX;rw [J.wO] at h;refine wp_seq_k fun K aoY=>bd [] [(270,.bool (decide (fh <(aL.length:Int))))] I fun a I=>bn (I.g rfl) h (fun ar8 h=>?_) (fun ar8 h=>?_)
   · refine wp_skip <| aoY _ _ <| wp_seq_k fun K aoZ=>?_;obtain ⟨afP,h,HO⟩:=J.e3 h;refine cd (fun a w=>Fr ⟨353,[]⟩ [(0,.q ag ah aL),(22,.i fh)] a/\aw W M0 X w [ap.row 105 3 (.q fL fV cI) cI dX] [U J.b' ga gd dI.aU,U J.aW f' gb dI.Fields,ak.rows J.aW dX cI,U J.bc ag ah aL]/\afP=(.go ())) (fun K ao0=>?_) ?_
     · refine wp_seq_k fun K ao1=>aZ <| aN 2 [] [(273,.q ag ah aL),(274,.i fh)] I fun a I=>?_;obtain ⟨fz,aCj,h⟩:=J.aI h;have hc:=hm;refine bR (vs:=[.q ag ah aL,.i fh]) wn rfl Tryz.call136 ⟨(I.g rfl),(I.g rfl),trivial⟩ (Lp ((hc.into 0).pick ⟨⟨3,rfl⟩,trivial⟩) aCj) I rfl rfl ?_;rintro _ w ⟨hJ,iD,rfl,af⟩;refine ⟨_,rfl,fun a I=>?_⟩;have hm:=hc.back 0 af;clear af hc;refine aN 1 [] [(23,.q hJ iD fz)] I fun a I=>wpList_nil (ao1 _ _ ?_);refine wp_seq_k fun K ao2=>?_
       refine cg [] [(24,.i 0)] I fun a I=>ao2 _ _ ?_;obtain ⟨WZ,h,HP⟩:=J.e3 h;refine cd (fun a w=>Fr ⟨353,[]⟩ [(0,.q ag ah aL),(22,.i fh)] a/\aw W M0 X w [ap.row 105 3 (.q fL fV cI) cI dX] [U (ai .i64) hJ iD fz,U J.b' ga gd dI.aU,U J.aW f' gb dI.Fields,ak.rows J.aW dX cI,U J.bc ag ah aL]/\WZ=(.go ())) (fun K ao3=>?_) ?_
       · refine cB (fun (Mw:Nat) a w=>∃ (gi:Int),Fr ⟨353,[]⟩ [(0,.q ag ah aL),(22,.i fh),(23,.q hJ iD fz),(24,.i gi)] a/\aw W M0 X w [ap.row 105 3 (.q fL fV cI) cI dX] [U (ai .i64) hJ iD fz,U J.b' ga gd dI.aU,U J.aW f' gb dI.Fields,ak.rows J.aW dX cI,U J.bc ag ah aL]/\J.wP F aL fh fz Mw gi=some WZ) F ⟨0,I.cut,hm,h⟩ ?_ ?_
         · rintro a w ⟨gi,I,hm,h⟩;exact absurd h (by simp [J.wP])
         rintro Mw a w ⟨gi,I,hm,h⟩ K ao4;rw [J.wP] at h;refine wp_seq_k fun K ao5=>bd [] [(280,.bool (decide (gi <(J.av ((fz.length:Int) - 1)))))] I fun a I=>bn (I.g rfl) h (fun asb h=>?_) (fun asb h=>?_)
         · refine wp_skip <| ao5 _ _ <| wp_seq_k fun K ao6=>?_;obtain ⟨afR,h,HQ⟩:=J.e3 h;refine cd (fun a w=>Fr ⟨353,[]⟩ [(0,.q ag ah aL),(22,.i fh),(23,.q hJ iD fz),(24,.i gi)] a/\aw W M0 X w [ap.row 105 3 (.q fL fV cI) cI dX] [U (ai .i64) hJ iD fz,U J.b' ga gd dI.aU,U J.aW f' gb dI.Fields,ak.rows J.aW dX cI,U J.bc ag ah aL]/\afR=(.go ())) (fun K ao7=>?_) ?_
           · refine bu [] [(0,.q ag ah aL),(22,.i fh),(23,.q hJ iD fz),(24,.i gi),(25,.i 0)] I fun a I=>?_;obtain ⟨W1,h,HR⟩:=J.e3 h
             refine cd (fun a w=>Fr ⟨353,[]⟩ [(0,.q ag ah aL),(22,.i fh),(23,.q hJ iD fz),(24,.i gi)] a/\aw W M0 X w [ap.row 105 3 (.q fL fV cI) cI dX] [U (ai .i64) hJ iD fz,U J.b' ga gd dI.aU,U J.aW f' gb dI.Fields,ak.rows J.aW dX cI,U J.bc ag ah aL]/\W1=(.go ())) (fun K ao8=>?_) ?_
             · refine cB (fun (Mx:Nat) a w=>∃ (ic:Int),Fr ⟨353,[]⟩ [(0,.q ag ah aL),(22,.i fh),(23,.q hJ iD fz),(24,.i gi),(25,.i ic)] a/\aw W M0 X w [ap.row 105 3 (.q fL fV cI) cI dX] [U (ai .i64) hJ iD fz,U J.b' ga gd dI.aU,U J.aW f' gb dI.Fields,ak.rows J.aW dX cI,U J.bc ag ah aL]/\J.wQ F aL fh fz gi Mx ic=some W1) F ⟨0,I.cut,hm,h⟩ ?_ ?_
               · rintro a w ⟨ic,I,hm,h⟩;exact absurd h (by simp [J.wQ])
               rintro Mx a w ⟨ic,I,hm,h⟩ K ao9;rw [J.wQ] at h;refine wp_seq_k fun K ao_=>wp_seq_k fun K ao'=>aZ <| aN 3 [] [(283,.i ic),(284,.q ag ah aL),(285,.i fh)] I fun a I=>?_;obtain ⟨r3,aE',h⟩:=J.aI h;obtain ⟨aok,aza,_,⟨Ky,Li,Kz,Lj,rfl,awt,awu⟩,auT⟩:=b3 _ (hm.d 4 rfl) aE';have hm:=hm.more (y:=U J.aW Ky Li r3.Fields) awt;have hm:=hm.more (y:=U J.b' Kz Lj r3.aU) awu
               refine bU wn (bI Tryz.underlying25 Tryz.sizeOf136 rfl (I.g rfl) (I.g rfl) aok aza) I rfl rfl fun a I=>bf 4 [0,3] [(290,.bool (decide (ic <(r3.aU.length:Int))))] [bG ag,bH ag+(fh).toNat* 4 + 3] (ay auT ax) I fun a I=>wpList_nil (ao' _ _ ?_);refine bn (I.g rfl) h (fun asc h=>?_) (fun asc h=>?_)
               · refine wp_skip <| ao_ _ _ <| wp_seq_k fun K apa=>?_;obtain ⟨afS,h,HS⟩:=J.e3 h
                 refine cd (fun a w=>Fr ⟨353,[]⟩ [(0,.q ag ah aL),(22,.i fh),(23,.q hJ iD fz),(24,.i gi),(25,.i ic)] a/\aw W M0 X w [ap.row 105 3 (.q fL fV cI) cI dX] [U J.b' Kz Lj r3.aU,U J.aW Ky Li r3.Fields,U (ai .i64) hJ iD fz,U J.b' ga gd dI.aU,U J.aW f' gb dI.Fields,ak.rows J.aW dX cI,U J.bc ag ah aL]/\afS=(.go ())) (fun K apb=>?_) ?_
                 · refine bd [] [(26,.i 0)] I fun a I=>?_;obtain ⟨W2,h,HT⟩:=J.e3 h
                   refine cd (fun a w=>Fr ⟨353,[]⟩ [(0,.q ag ah aL),(22,.i fh),(23,.q hJ iD fz),(24,.i gi),(25,.i ic)] a/\aw W M0 X w [ap.row 105 3 (.q fL fV cI) cI dX] [U J.b' Kz Lj r3.aU,U J.aW Ky Li r3.Fields,U (ai .i64) hJ iD fz,U J.b' ga gd dI.aU,U J.aW f' gb dI.Fields,ak.rows J.aW dX cI,U J.bc ag ah aL]/\W2=(.go ())) (fun K apc=>?_) ?_
                   · refine cB (fun (Io:Nat) a w=>∃ (kD:Int),Fr ⟨353,[]⟩ [(0,.q ag ah aL),(22,.i fh),(23,.q hJ iD fz),(24,.i gi),(25,.i ic),(26,.i kD)] a/\aw W M0 X w [ap.row 105 3 (.q fL fV cI) cI dX] [U J.b' Kz Lj r3.aU,U J.aW Ky Li r3.Fields,U (ai .i64) hJ iD fz,U J.b' ga gd dI.aU,U J.aW f' gb dI.Fields,ak.rows J.aW dX cI,U J.bc ag ah aL]/\J.tw F aL fh fz gi ic Io kD=some W2) F ⟨0,I.cut,hm,h⟩ ?_ ?_
                     · rintro a w ⟨kD,I,hm,h⟩;exact absurd h (by simp [J.tw])
                     rintro Io a w ⟨kD,I,hm,h⟩ K adA;rw [J.tw] at h;refine wp_seq_k fun K apd=>wp_seq_k fun K ape=>aZ <| aN 4 [] [(293,.i kD),(294,.q ag ah aL),(295,.q hJ iD fz),(296,.i gi)] I fun a I=>?_;obtain ⟨O6,aFa,h⟩:=J.aI h;obtain ⟨aol,azb,_,rfl,auU⟩:=b3 _ (hm.d 2 rfl) aFa;refine bU wn (bI Tryz.underlying22 Tryz.sizeOf3 rfl (I.g rfl) (I.g rfl) aol azb) I rfl rfl fun a I=>bf 1 [0,0] [(298,.i O6)] [bG hJ,bH hJ+(gi).toNat* 1] (ay auU ax) I fun a I=>?_;obtain ⟨Jw,aFb,h⟩:=J.aI h
                     obtain ⟨aom,azc,_,⟨ais,ajo,ait,ajp,rfl,awv,aww⟩,auV⟩:=b3 _ (hm.d 6 rfl) aFb;have hm:=hm.more (y:=U J.aW ais ajo Jw.Fields) awv;have hm:=hm.more (y:=U J.b' ait ajp Jw.aU) aww;refine bU wn (bI Tryz.underlying25 Tryz.sizeOf136 rfl (I.g rfl) (I.g rfl) aom azc) I rfl rfl fun a I=>bf 4 [0,3] [(303,.bool (decide (kD <(Jw.aU.length:Int))))] [bG ag,bH ag+(O6).toNat* 4 + 3] (ay auV ax) I fun a I=>wpList_nil (ape _ _ ?_);refine bn (I.g rfl) h (fun asd h=>?_) (fun asd h=>?_)
                     · refine wp_skip <| apd _ _ <| wp_seq_k fun K adB=>wp_block <| wp_seq_k fun K apf=>g1 (m:=23) 23 (a7 []) (by kernel_rfl) rfl fun w ad=>?_;have hm:=hm.dz ad;clear ad;have a8:=hm;have ar:=a7.refl [] w;refine b7 [0,1,5,8,9,10,16] 7 [] [(306,.q ag ah aL),(307,.i fh),(311,.i ic),(314,.q ag ah aL),(315,.q hJ iD fz),(316,.i gi),(322,.i kD)] [] (fun a5 ad=>ax) I ar fun a I=>?_;obtain ⟨Bu,aFc,h⟩:=J.aI h;obtain ⟨aon,azd,_,⟨aaA,ab9,Fg,Q1,rfl,adX,adY⟩,auW⟩:=b3 _ (a8.d 8 rfl) aFc
                       have a8:=a8.more (y:=U J.aW aaA ab9 Bu.Fields) adX;have hm:=hm.more (y:=U J.aW aaA ab9 Bu.Fields) adX;have a8:=a8.more (y:=U J.b' Fg Q1 Bu.aU) adY;have hm:=hm.more (y:=U J.b' Fg Q1 Bu.aU) adY;refine eM 2 rfl (by kernel_rfl) wn (fun a5=>bI Tryz.underlying25 Tryz.sizeOf136 rfl (I.g rfl) (I.g rfl) aon azd) ar I rfl rfl fun a I=>?_
                       refine b7 [3,4] 2 [0,3] [(310,.q Fg Q1 Bu.aU)] [bG ag,bH ag+(fh).toNat* 4 + 3] (fun a5 ad=>(ay (b6 ad auW) ax)) I ar fun a I=>?_;obtain ⟨fQ,aFd,h⟩:=J.aI h;obtain ⟨aoo,aze,_,⟨B1,CI,KA,Lk,rfl,adZ,ad0⟩,auX⟩:=b3 _ (a8.d 0 rfl) aFd;have a8:=a8.more (y:=U J.dw B1 CI fQ.bK) adZ;have hm:=hm.more (y:=U J.dw B1 CI fQ.bK) adZ
                       have a8:=a8.more (y:=U J.er KA Lk fQ.bN) ad0;have hm:=hm.more (y:=U J.er KA Lk fQ.bN) ad0;refine eM 6 rfl (by kernel_rfl) wn (fun a5=>bI Tryz.underlying134 Tryz.sizeOf133 rfl (I.g rfl) (I.g rfl) aoo aze) ar I rfl rfl fun a I=>?_
                       refine b7 [7] 1 [0,0] [(313,.agg #[ao fQ.Name,.bool fQ.Static,.q B1 CI fQ.bK,.i fQ.Returns.Kind,ao fQ.Returns.aO,.i fQ.cY,.i fQ.cX,ao fQ.Code,.q KA Lk fQ.bN])] [bG Fg,bH Fg+(ic).toNat* 9] (fun a5 ad=>(ay (b6 ad auX) ax)) I ar fun a I=>?_;obtain ⟨O7,aFe,h⟩:=J.aI h;obtain ⟨aop,azf,_,rfl,auY⟩:=b3 _ (a8.d 8 rfl) aFe;refine eM 11 rfl (by kernel_rfl) wn (fun a5=>bI Tryz.underlying22 Tryz.sizeOf3 rfl (I.g rfl) (I.g rfl) aop azf) ar I rfl rfl fun a I=>?_
                       refine b7 [12] 1 [0,0] [(318,.i O7)] [bG hJ,bH hJ+(gi).toNat* 1] (fun a5 ad=>(ay (b6 ad auY) ax)) I ar fun a I=>?_;obtain ⟨Bv,aFf,h⟩:=J.aI h;obtain ⟨aoq,azg,_,⟨aaB,ab_,Fh,Q2,rfl,ad1,ad2⟩,auZ⟩:=b3 _ (a8.d 12 rfl) aFf;have a8:=a8.more (y:=U J.aW aaB ab_ Bv.Fields) ad1;have hm:=hm.more (y:=U J.aW aaB ab_ Bv.Fields) ad1;have a8:=a8.more (y:=U J.b' Fh Q2 Bv.aU) ad2
                       have hm:=hm.more (y:=U J.b' Fh Q2 Bv.aU) ad2;refine eM 13 rfl (by kernel_rfl) wn (fun a5=>bI Tryz.underlying25 Tryz.sizeOf136 rfl (I.g rfl) (I.g rfl) aoq azg) ar I rfl rfl fun a I=>b7 [14,15] 2 [0,3] [(321,.q Fh Q2 Bv.aU)] [bG ag,bH ag+(O7).toNat* 4 + 3] (fun a5 ad=>(ay (b6 ad auZ) ax)) I ar fun a I=>?_;obtain ⟨fR,aFg,h⟩:=J.aI h;obtain ⟨aor,azh,_,⟨B2,CJ,KB,Ll,rfl,ad3,ad4⟩,au0⟩:=b3 _ (a8.d 0 rfl) aFg
                       have a8:=a8.more (y:=U J.dw B2 CJ fR.bK) ad3;have hm:=hm.more (y:=U J.dw B2 CJ fR.bK) ad3;have a8:=a8.more (y:=U J.er KB Ll fR.bN) ad4;have hm:=hm.more (y:=U J.er KB Ll fR.bN) ad4;refine eM 17 rfl (by kernel_rfl) wn (fun a5=>bI Tryz.underlying134 Tryz.sizeOf133 rfl (I.g rfl) (I.g rfl) aor azh) ar I rfl rfl fun a I=>?_
                       refine b7 [18] 1 [0,0] [(324,.agg #[ao fR.Name,.bool fR.Static,.q B2 CJ fR.bK,.i fR.Returns.Kind,ao fR.Returns.aO,.i fR.cY,.i fR.cX,ao fR.Code,.q KB Ll fR.bN])] [bG Fh,bH Fh+(kD).toNat* 9] (fun a5 ad=>(ay (b6 ad au0) ax)) I ar fun a I=>?_
                       refine Qy (ci:=[ao [],.bool false,.slice none 0 0,.i 0,ao [],.i 0,.i 0,ao [],.slice none 0 0]) (cj:=[ao [],.bool false,.slice none 0 0,.i 0,ao [],.i 0,.i 0,ao [],.slice none 0 0]) 19 20 rfl rfl (by kernel_rfl) (by kernel_rfl) (by kernel_rfl) (by kernel_rfl) rfl rfl (fun b w=>eL Tryz.zeroValue133 rfl rfl) (fun b w=>eL Tryz.zeroValue133 rfl rfl) I hm rfl rfl rfl rfl rfl (fun a5 h=>eW ar h) fun a Gp Gq w ad SL SM I hm=>?_;have SL:=Nat.le_trans ar.size SL;have SM:=Nat.le_trans ar.size SM;have ar:=eW ar ad;clear ad;refine cy 21 rfl (by kernel_rfl) (fun _=>ar) ?_
                       refine Ba (vs:=[ao fQ.Name,.bool fQ.Static,.q B1 CI fQ.bK,.i fQ.Returns.Kind,ao fQ.Returns.aO,.i fQ.cY,.i fQ.cX,ao fQ.Code,.q KA Lk fQ.bN]) 0 hm rfl wn rfl Tryz.sizeOf133 rfl rfl rfl rfl (I.g rfl) (I.g rfl) rfl fun w ad hm=>?_;have ar:=q9 ar ad SL;clear ad;refine cq <| cy 22 rfl (by kernel_rfl) (fun _=>ar) ?_
                       refine Ba (vs:=[ao fR.Name,.bool fR.Static,.q B2 CJ fR.bK,.i fR.Returns.Kind,ao fR.Returns.aO,.i fR.cY,.i fR.cX,ao fR.Code,.q KB Ll fR.bN]) 1 hm rfl wn rfl Tryz.sizeOf133 rfl rfl rfl rfl (I.g rfl) (I.g rfl) rfl fun w ad hm=>?_;have ar:=q9 ar ad SM;clear ad;refine cq <| eU (by kernel_rfl) ?_ (fun _=>ar);clear a8 ar;refine apf _ _ <| wp_seq_k fun K LR=>aZ ?_
                       refine bf 6 [0,0,1,0] [(330,.bool (decide (fQ.Name=fR.Name)))] [Gq,0,Gp,0] (ay (a1 (hm.e 0 rfl)) (ay (a1 (hm.e 1 rfl)) ax)) I fun a I=>?_;rcases Bool.eq_false_or_eq_true (decide (fQ.Name=fR.Name)) with Hv | Hv
                       · have h:=J.c5 Hv h;have I:=I.b1 330 rfl Hv;refine bf 7 [1,1,0,1,1,0,0,1,1,1,0,1] [(337,.bool (fQ.Static || fR.Static))] [Gq,1,Gp,1] (ay (a1 (hm.e 0 rfl)) (ay (a1 (hm.e 1 rfl)) ax)) I fun a I=>?_;rcases Bool.eq_false_or_eq_true (fQ.Static || fR.Static) with Hw | Hw
                         · have h:=J.c5 Hw h;have I:=I.b1 337 rfl Hw;refine ek 15 [1,1,1,1,1,1,1,1,1,1,1,1,1,1,1,1,1] [(0,.q ag ah aL),(22,.i fh),(23,.q hJ iD fz),(24,.i gi),(25,.i ic),(26,.i kD),(352,.bool true)] I fun a I=>wpList_nil (LR _ _ ?_);refine eJ (I.g rfl) rfl <| bu [] [(2,.i 4)] I fun a I=>wp_ret ?_;obtain rfl:=aC h;obtain rfl:=aC HT;obtain rfl:=aC HS;obtain rfl:=aC HR
                           obtain rfl:=aC HQ;obtain rfl:=aC HP;obtain rfl:=aC HO;obtain rfl:=aC HN;refine a' (al (al (a' (al (a' (al (al (al (a' (al (a' (al (al (al (a' (al (a' (al (al (al (a' (al (al ?_)))))))))))))))))))))));refine bq Tryz.results109 I rfl ?_;exact ⟨rfl,hm.aX [] []⟩
                         have h:=J.c4 Hw h;have I:=I.b1 337 rfl Hw;refine kH 4 [1,1,0,2,1,1,1,2] [(0,.q ag ah aL),(22,.i fh),(23,.q hJ iD fz),(24,.i gi),(25,.i ic),(26,.i kD),(27,.aK Gp),(28,.aK Gq),(330,.bool true),(337,.bool false),(339,.q B1 CI fQ.bK),(341,.q B2 CJ fR.bK)] [Gq,2,Gp,2] (ay (a1 (hm.e 0 rfl)) (ay (a1 (hm.e 1 rfl)) ax)) I fun a I=>?_;obtain ⟨NF,aCn,h⟩:=J.aI h;have hc:=hm
                         refine bR (vs:=[.q B1 CI fQ.bK,.q B2 CJ fR.bK]) (cS I rfl rfl rfl rfl) rfl Tryz.call138 ⟨(I.g rfl),(I.g rfl),trivial⟩ (ace ((hc.into 0).pick ⟨⟨5,rfl⟩,⟨1,rfl⟩,trivial⟩) aCn) I rfl rfl ?_;rintro _ w ⟨rfl,af⟩;refine ⟨_,rfl,fun a I=>?_⟩;have hm:=hc.back 0 af;clear af hc;refine aN 3 [1,1,1,1] [(345,.bool (!NF))] I fun a I=>?_;rcases Bool.eq_false_or_eq_true (!NF) with Hy | Hy
                         · have h:=J.c5 Hy h;have I:=I.b1 345 rfl Hy;refine aN 7 [1,1,1,1,1,1,1,1] [(352,.bool true)] I fun a I=>wpList_nil (LR _ _ ?_);refine eJ (I.g rfl) rfl <| bu [] [(2,.i 4)] I fun a I=>wp_ret ?_;obtain rfl:=aC h;obtain rfl:=aC HT;obtain rfl:=aC HS;obtain rfl:=aC HR;obtain rfl:=aC HQ;obtain rfl:=aC HP;obtain rfl:=aC HO
                           obtain rfl:=aC HN;refine a' (al (al (a' (al (a' (al (al (al (a' (al (a' (al (al (al (a' (al (a' (al (al (al (a' (al (al ?_)))))))))))))))))))))));refine bq Tryz.results109 I rfl ?_;exact ⟨rfl,hm.aX [] []⟩
                         have h:=J.c4 Hy h;have I:=I.b1 345 rfl Hy;refine bf 4 [1,1,0,3,1,1,1,3] [(347,.agg #[.i fQ.Returns.Kind,ao fQ.Returns.aO]),(349,.agg #[.i fR.Returns.Kind,ao fR.Returns.aO])] [Gq,3,Gp,3] (ay (a1 (hm.e 0 rfl)) (ay (a1 (hm.e 1 rfl)) ax)) I fun a I=>bU (cS I rfl rfl rfl rfl) (Gj (X:=fQ.Returns) (Y:=fR.Returns) rfl (I.g rfl) (I.g rfl)) I rfl rfl fun a I=>aN 2 [1,1,1] [(352,.bool (!decide (fQ.Returns=fR.Returns)))] I fun a I=>wpList_nil (LR _ _ ?_)
                         refine bn (I.g rfl) h (fun ase h=>?_) (fun ase h=>?_)
                         · refine bu [] [(2,.i 4)] I fun a I=>wp_ret ?_;obtain rfl:=aC h;obtain rfl:=aC HT;obtain rfl:=aC HS;obtain rfl:=aC HR;obtain rfl:=aC HQ;obtain rfl:=aC HP;obtain rfl:=aC HO;obtain rfl:=aC HN
                           refine a' (al (al (a' (al (a' (al (al (al (a' (al (a' (al (al (al (a' (al (a' (al (al (al (a' (al (al ?_)))))))))))))))))))))));refine bq Tryz.results109 I rfl ?_;exact ⟨rfl,hm.aX [] []⟩
                         refine wp_skip <| adB _ _ <| cg [] [(26,.i (J.av (kD+ 1)))] I fun a I=>?_;exact adA _ _ ⟨J.av (kD+ 1),I.cut,hm.aX [2] [10,11,12,13,14,15,16],h⟩
                       have h:=J.c4 Hv h;have I:=I.b1 330 rfl Hv;refine aN 22 [1,1,1,1,1,1,1,1,1,1,1,1,1,1,1,1,1,1,1,1,1,1] [(352,.bool false)] I fun a I=>wpList_nil (LR _ _ ?_);refine g2 (I.g rfl) rfl <| wp_skip <| adB _ _ <| D0 [] [(0,.q ag ah aL),(22,.i fh),(23,.q hJ iD fz),(24,.i gi),(25,.i ic),(26,.i (J.av (kD+ 1)))] I fun a I=>?_;exact adA _ _ ⟨J.av (kD+ 1),I.cut,hm.aX [2] [10,11,12,13,14,15,16],h⟩
                     refine wp_exit <| bC (bC (cv ?_));exact apc _ _ ⟨I.cut,hm.eg [2,3,4,5,6,7,8],(os h)⟩
                   rintro a w ⟨I,hm,bb⟩;subst W2;have h:=HT;clear HT;dsimp only [J.eV] at h;exact apb _ _ ⟨I.cut,hm,(os h)⟩
                 rintro a w ⟨I,hm,bb⟩;subst afS;have h:=HS;clear HS;dsimp only [J.eV] at h;refine apa _ _ <| cg [] [(25,.i (J.av (ic+ 1)))] I fun a I=>?_;exact ao9 _ _ ⟨J.av (ic+ 1),I.cut,hm.eg [2,3,4,5,6],h⟩
               refine wp_exit <| bC (bC (cv ?_));exact ao8 _ _ ⟨I.cut,hm.eg [2,3,4,5,6],(os h)⟩
             rintro a w ⟨I,hm,bb⟩;subst W1;have h:=HR;clear HR;dsimp only [J.eV] at h;exact ao7 _ _ ⟨I.cut,hm,(os h)⟩
           rintro a w ⟨I,hm,bb⟩;subst afR;have h:=HQ;clear HQ;dsimp only [J.eV] at h;refine ao6 _ _ <| D0 [] [(0,.q ag ah aL),(22,.i fh),(23,.q hJ iD fz),(24,.i (J.av (gi+ 1)))] I fun a I=>?_;exact ao4 _ _ ⟨J.av (gi+ 1),I.cut,hm,h⟩
         refine wp_exit <| bC (bC (cv ?_));exact ao3 _ _ ⟨I.cut,hm,(os h)⟩
       rintro a w ⟨I,hm,bb⟩;subst WZ;have h:=HP;clear HP;dsimp only [J.eV] at h;exact ao0 _ _ ⟨I.cut,hm.eg [1,2,3,4],(os h)⟩
     rintro a w ⟨I,hm,bb⟩;subst afP;have h:=HO;clear HO;dsimp only [J.eV] at h;refine aoZ _ _ <| cg [] [(22,.i (J.av (fh+ 1)))] I fun a I=>?_;exact aoX _ _ ⟨J.av (fh+ 1),I.cut,hm,h⟩
   refine wp_exit <| bC (bC (cv ?_));exact aoW _ _ ⟨I.cut,hm,(os h)⟩
 rintro a w ⟨I,hm,bb⟩;subst Wq;have h:=HN;clear HN;dsimp only [J.ec] at h;refine aoV _ _ <| bu [] [(2,.i 0)] I fun a I=>wp_ret ?_;obtain rfl:=aC h;refine bq Tryz.results109 I rfl ?_;exact ⟨rfl,hm.aX [] []⟩
theorem ajC {W:World} {X:List Nat} {F:Nat} {aL:List J.aO} {r:J.bt × Int} {ag:aT} {ah:Nat} {M0:List Nat} (hm:aw W M0 X W [] [U J.bc ag ah aL]) (h:J.Fp F aL=some r) :
 Calls Tryz.prog 84 [.q ag ah aL].toArray W (fun e aF=>∃ ZP:Option Addr,∃ abi:Nat,∃ ZQ:Option Addr,∃ abj:Nat,∃ ahy:List Value,∃ ZR:Option Addr,∃ abk:Nat,∃ ahz:List Value,∃ ZS:Option Addr,∃ abl:Nat,∃ ahA:List Value,∃ ZT:Option Addr,∃ abm:Nat,∃ ahB:List Value,e= .returned (.tuple #[.agg #[.q ZP abi r.1.aG,.q ZQ abj r.1.aE,.q ZR abk r.1.Fields,.q ZS abl r.1.Names,.q ZT abm r.1.aD],.i r.2])/\aw W M0 X aF [ap.row 3 1 (.q ZQ abj r.1.aE) r.1.aE ahy,ap.row 106 1 (.q ZR abk r.1.Fields) r.1.Fields ahz,ap.row 125 1 (.q ZS abl r.1.Names) r.1.Names ahA,ap.row 126 1 (.q ZT abm r.1.aD) r.1.aD ahB] [U J.bc ZP abi r.1.aG,ak.rows (ai .i64) ahy r.1.aE,ak.rows (aH J.aW) ahz r.1.Fields,ak.rows (aH bF) ahA r.1.Names,ak.rows (aH J.bV) ahB r.1.aD]):=by
 refine enter Tryz.func84 rfl Tryz.ntmps84 rfl fun a I=>?_;rw [J.Fp] at h;refine wp_seq_k fun K c2=>aZ <| cz (cs:=[.slice none 0 0,.slice none 0 0,.slice none 0 0,.slice none 0 0,.slice none 0 0]) wn (eL Tryz.zeroValue30 rfl rfl) I hm rfl rfl fun a fM w _ I hm=>aN 1 [] [] I fun a I=>wpList_nil (c2 _ _ ?_);refine wp_seq_k fun K bO=>aZ <| aN 1 [] [(10,.q ag ah aL)] I fun a I=>?_;obtain ⟨ih,AF,h⟩:=J.aI h;have hc:=hm;refine bR (vs:=[.q ag ah aL]) wn rfl Tryz.call109 ⟨(I.g rfl),trivial⟩ (ajy ((hc.into 0).pick ⟨⟨0,rfl⟩,trivial⟩) AF) I rfl rfl ?_;rintro _ w ⟨rfl,af⟩;refine ⟨_,rfl,?_⟩
 intro a I;have hm:=hc.back 0 af;clear af hc;refine aN 1 [] [(4,.i ih)] I fun a I=>wpList_nil (bO _ _ ?_);refine wp_seq_k fun K cc=>bd [] [(13,.bool (!decide (ih= 0)))] I fun a I=>bn (I.g rfl) h (fun Sb h=>?_) (fun Sb h=>?_)
 · refine wp_seq_k fun K cn=>aZ <| bU wn (gm (vs:=[]) (cs:=[.slice none 0 0,.slice none 0 0,.slice none 0 0,.slice none 0 0,.slice none 0 0]) Tryz.zeroValue30 Tryz.underlying30 qv rfl trivial (by kernel_rfl)) I rfl rfl fun a I=>aN 1 [] [(15,.i ih)] I fun a I=>cA (vs:=[.slice none 0 0,.slice none 0 0,.slice none 0 0,.slice none 0 0,.slice none 0 0]) 0 hm rfl wn rfl Tryz.sizeOf30 rfl rfl rfl rfl (I.g rfl) (I.g rfl) rfl fun w hm=>aN 1 [] [(3,.i ih)] I fun a I=>wpList_nil (cn _ _ ?_);refine wp_ret ?_;obtain rfl:=aC h;refine al ?_
   refine gA (vs:=[.agg #[.slice none 0 0,.slice none 0 0,.slice none 0 0,.slice none 0 0,.slice none 0 0],.i ih]) Tryz.results84 I ⟨⟨_,_,I.g rfl,.inl ⟨[.slice none 0 0,.slice none 0 0,.slice none 0 0,.slice none 0 0,.slice none 0 0],Tryz.isAgg30,Tryz.sizeOf30,gD (hm.e 0 rfl) 0 ⟨rfl,rfl,rfl,rfl,rfl,trivial⟩,rfl⟩⟩,I.g rfl,trivial⟩ ?_;have hm:=hm.cU (α:=Int) 3 1;have hm:=hm.more (y:=ak.rows (ai .i64) [] []) rfl;have hm:=hm.cU (α:=List J.Field) 106 1;have hm:=hm.more (y:=ak.rows (aH J.aW) [] []) rfl;have hm:=hm.cU (α:=List (List UInt8)) 125 1;have hm:=hm.more (y:=ak.rows (aH bF) [] []) rfl;have hm:=hm.cU (α:=List J.Target) 126 1;have hm:=hm.more (y:=ak.rows (aH J.bV) [] []) rfl
   have hm:=hm.more (y:=ak.of (aH J.bc) [.slice none 0 0] ([]:List J.aO)) (j1 _ _ _);exact ⟨none,0,none,0,[],none,0,[],none,0,[],none,0,[],rfl,hm.aX [3,2,1,0] [0,1,1,1,1]⟩
 refine wp_skip <| cc _ _ <| wp_seq_k fun K dK=>aZ <| aN 1 [] [(16,.q ag ah aL)] I fun a I=>bU wn (gm (vs:=[(0,.q ag ah aL)]) (cs:=[.q ag ah aL,.slice none 0 0,.slice none 0 0,.slice none 0 0,.slice none 0 0]) Tryz.zeroValue30 Tryz.underlying30 qv rfl ⟨⟨(I.g rfl),rfl⟩,trivial⟩ (by kernel_rfl)) I rfl rfl fun a I=>cz (cs:=[.slice none 0 0,.slice none 0 0,.slice none 0 0,.slice none 0 0,.slice none 0 0]) wn (eL Tryz.zeroValue30 rfl rfl) I hm rfl rfl fun a dh w _ I hm=>cA (vs:=[.q ag ah aL,.slice none 0 0,.slice none 0 0,.slice none 0 0,.slice none 0 0]) 0 hm rfl wn rfl Tryz.sizeOf30 rfl rfl rfl rfl (I.g rfl) (I.g rfl) rfl ?_
 intro w hm;refine wpList_nil <| dK _ _ <| wp_seq_k fun K dm=>bd [] [(6,.i 0)] I fun a I=>?_;have hm:=hm.cU (α:=Int) 3 1;have hm:=hm.more (y:=ak.rows (ai .i64) [] []) rfl;have hm:=hm.cU (α:=List J.Field) 106 1;have hm:=hm.more (y:=ak.rows (aH J.aW) [] []) rfl;have hm:=hm.cU (α:=List (List UInt8)) 125 1;have hm:=hm.more (y:=ak.rows (aH bF) [] []) rfl;have hm:=hm.cU (α:=List J.Target) 126 1;have hm:=hm.more (y:=ak.rows (aH J.bV) [] []) rfl;obtain ⟨VM,h,Tb⟩:=J.ei h
 refine cd (fun a w=>∃ (v':aT) (xj:Nat) (pP:List (List J.Target)) (O':dD) (wa:aT) (xk:Nat) (pQ:List (List (List UInt8))) (Pb:dD) (wb:aT) (xl:Nat) (pR:List (List J.Field)) (Pc:dD) (wc:aT) (xm:Nat) (pS:eI) (Pd:dD),Fr ⟨73,[]⟩ [(2,.aK fM),(5,.aK dh)] a/\aw W M0 X w [ap.row 126 1 (.q v' xj pP) pP O',ap.row 125 1 (.q wa xk pQ) pQ Pb,ap.row 106 1 (.q wb xl pR) pR Pc,ap.row 3 1 (.q wc xm pS) pS Pd,ap.bm dh 30 [.q ag ah aL,.q wc xm pS,.q wb xl pR,.q wa xk pQ,.q v' xj pP],ap.bm fM 30 [.slice none 0 0,.slice none 0 0,.slice none 0 0,.slice none 0 0,.slice none 0 0]] [ak.rows (aH J.bV) O' pP,ak.rows (aH bF) Pb pQ,ak.rows (aH J.aW) Pc pR,ak.rows (ai .i64) Pd pS,U J.bc ag ah aL]/\VM=(.go (pP,pQ,pR,pS))) (fun K dj=>?_) ?_
 · refine cB (fun (bw:Nat) a w=>∃ (BG:aT) (Co:Nat) (pT:List (List J.Target)) (JA:dD) (BH:aT) (Cp:Nat) (pU:List (List (List UInt8))) (JB:dD) (BI:aT) (Cq:Nat) (pV:List (List J.Field)) (JC:dD) (BJ:aT) (Cr:Nat) (pW:eI) (JD:dD) (kA:Int),Fr ⟨73,[]⟩ [(0,.q ag ah aL),(2,.aK fM),(5,.aK dh),(6,.i kA)] a/\aw W M0 X w [ap.row 126 1 (.q BG Co pT) pT JA,ap.row 125 1 (.q BH Cp pU) pU JB,ap.row 106 1 (.q BI Cq pV) pV JC,ap.row 3 1 (.q BJ Cr pW) pW JD,ap.bm dh 30 [.q ag ah aL,.q BJ Cr pW,.q BI Cq pV,.q BH Cp pU,.q BG Co pT],ap.bm fM 30 [.slice none 0 0,.slice none 0 0,.slice none 0 0,.slice none 0 0,.slice none 0 0]] [ak.rows (aH J.bV) JA pT,ak.rows (aH bF) JB pU,ak.rows (aH J.aW) JC pV,ak.rows (ai .i64) JD pW,U J.bc ag ah aL]/\J.qR F aL bw pT pU pV pW kA=some VM) F ⟨none,0,[],[],none,0,[],[],none,0,[],[],none,0,[],[],0,I.cut,hm.eg [0,0,0,0,4],h⟩ ?_ ?_
   · rintro a w ⟨BG,Co,pT,JA,BH,Cp,pU,JB,BI,Cq,pV,JC,BJ,Cr,pW,JD,kA,I,hm,h⟩;exact absurd h (by simp [J.qR])
   rintro bw a w ⟨BG,Co,pT,JA,BH,Cp,pU,JB,BI,Cq,pV,JC,BJ,Cr,pW,JD,kA,I,hm,h⟩ K df;rw [J.qR] at h;refine wp_seq_k fun K dy=>bd [] [(21,.bool (decide (kA <(aL.length:Int))))] I fun a I=>bn (I.g rfl) h (fun ap8 h=>?_) (fun ap8 h=>?_)
   · refine wp_skip <| dy _ _ <| wp_seq_k fun K dS=>wp_block <| wp_seq_k fun K fo=>aZ <| aN 2 [] [(24,.q ag ah aL),(25,.i kA)] I fun a I=>?_;obtain ⟨vG,aAS,h⟩:=J.aI h;have hc:=hm;refine bR (vs:=[.q ag ah aL,.i kA]) wn rfl Tryz.call110 ⟨(I.g rfl),(I.g rfl),trivial⟩ (Q4 ((hc.into 0).pick ⟨⟨4,rfl⟩,trivial⟩) aAS) I rfl rfl ?_;rintro _ w ⟨JX,KK,aLG,rfl,af⟩;refine ⟨_,rfl,fun a I=>?_⟩;have hm:=hc.back 0 af;clear af hc
     refine aN 1 [] [(7,.q JX KK vG)] I fun a I=>wpList_nil (fo _ _ ?_);refine wp_seq_k fun K fa=>aZ <| aN 2 [] [(28,.q ag ah aL),(29,.i kA)] I fun a I=>?_;obtain ⟨ni,aAT,h⟩:=J.aI h;have hc:=hm;refine bR (vs:=[.q ag ah aL,.i kA]) wn rfl Tryz.call111 ⟨(I.g rfl),(I.g rfl),trivial⟩ (ajI ((hc.into 0).pick ⟨⟨5,rfl⟩,trivial⟩) aAT) I rfl rfl ?_;rintro _ w ⟨JY,KL,aLH,JZ,KM,aLI,rfl,af⟩;refine ⟨_,rfl,fun a I=>?_⟩;have hm:=hc.back 0 af;clear af hc
     refine aN 5 [] [(8,.q JY KL ni.1),(9,.q JZ KM ni.2)] I fun a I=>wpList_nil (fa _ _ ?_);refine wp_seq_k fun K gE=>bd [0,0,0,0] [(40,.bool ((decide (12 <(vG.length:Int))) || (decide (16 <(ni.1.length:Int)))))] I fun a I=>bn (I.g rfl) h (fun ap_ h=>?_) (fun ap_ h=>?_)
     · refine wp_seq_k fun K fx=>aZ <| bU wn (gm (vs:=[]) (cs:=[.slice none 0 0,.slice none 0 0,.slice none 0 0,.slice none 0 0,.slice none 0 0]) Tryz.zeroValue30 Tryz.underlying30 qv rfl trivial (by kernel_rfl)) I rfl rfl fun a I=>cA (vs:=[.slice none 0 0,.slice none 0 0,.slice none 0 0,.slice none 0 0,.slice none 0 0]) 8 hm rfl wn rfl Tryz.sizeOf30 rfl rfl rfl rfl (I.g rfl) (I.g rfl) rfl fun w hm=>aN 1 [] [(3,.i 2)] I fun a I=>wpList_nil (fx _ _ ?_);refine wp_ret ?_;obtain rfl:=aC h;obtain rfl:=aC Tb
       refine al (a' (al (al (a' (al (al ?_))))));refine gA (vs:=[.agg #[.slice none 0 0,.slice none 0 0,.slice none 0 0,.slice none 0 0,.slice none 0 0],.i 2]) Tryz.results84 I ⟨⟨_,_,I.g rfl,.inl ⟨[.slice none 0 0,.slice none 0 0,.slice none 0 0,.slice none 0 0,.slice none 0 0],Tryz.isAgg30,Tryz.sizeOf30,gD (hm.e 8 rfl) 0 ⟨rfl,rfl,rfl,rfl,rfl,trivial⟩,rfl⟩⟩,I.g rfl,trivial⟩ ?_;have hm:=hm.cU (α:=Int) 3 1;have hm:=hm.more (y:=ak.rows (ai .i64) [] []) rfl;have hm:=hm.cU (α:=List J.Field) 106 1;have hm:=hm.more (y:=ak.rows (aH J.aW) [] []) rfl;have hm:=hm.cU (α:=List (List UInt8)) 125 1;have hm:=hm.more (y:=ak.rows (aH bF) [] []) rfl;have hm:=hm.cU (α:=List J.Target) 126 1
       have hm:=hm.more (y:=ak.rows (aH J.bV) [] []) rfl;have hm:=hm.more (y:=ak.of (aH J.bc) [.slice none 0 0] ([]:List J.aO)) (j1 _ _ _);exact ⟨none,0,none,0,[],none,0,[],none,0,[],none,0,[],rfl,hm.aX [3,2,1,0] [0,1,1,1,1]⟩
     refine wp_skip <| gE _ _ <| wp_seq_k fun K fN=>g1 (m:=13) 10 (a7 []) (by kernel_rfl) rfl fun w ad=>?_;have hm:=hm.dz ad;clear ad;have a8:=hm;have ar:=a7.refl [] w;refine b7 [0,1,2,3,4] 5 [0,1] [(43,.q BJ Cr pW),(44,.q ag ah aL),(45,.q ag ah aL),(46,.i kA)] [dh,1] (fun a5 ad=>(ay (b6 ad (a1 (a8.e 7 rfl))) ax)) I ar fun a I=>?_;obtain ⟨za,aDg,h⟩:=J.aI h;obtain ⟨amf,aw9,_,⟨ZJ,abb,ZK,abd,rfl,adV,adW⟩,asM⟩:=b3 _ (a8.d 7 rfl) aDg;have a8:=a8.more (y:=U J.aW ZJ abb za.Fields) adV
     have hm:=hm.more (y:=U J.aW ZJ abb za.Fields) adV;have a8:=a8.more (y:=U J.b' ZK abd za.aU) adW;have hm:=hm.more (y:=U J.b' ZK abd za.aU) adW;refine eM 5 rfl (by kernel_rfl) wn (fun a5=>bI Tryz.underlying25 Tryz.sizeOf136 rfl (I.g rfl) (I.g rfl) amf aw9) ar I rfl rfl fun a I=>b7 [6,7] 2 [0,1] [(49,ao za.b2)] [bG ag,bH ag+(kA).toNat* 4 + 1] (fun a5 ad=>(ay (b6 ad asM) ax)) I ar fun a I=>cy 8 rfl (by kernel_rfl) (fun _=>ar) ?_
     obtain ⟨IR,aAV,h⟩:=J.aI h;have hc:=hm;refine bR (vs:=[.q ag ah aL,ao za.b2]) wn rfl Tryz.call112 ⟨(I.g rfl),(I.g rfl),trivial⟩ (tX ((hc.into 0).pick ⟨⟨9,rfl⟩,trivial⟩) aAV) I rfl rfl ?_;rintro _ w ⟨rfl,af⟩;refine ⟨_,rfl,fun a I=>?_⟩;have ad:a7 [] _ w:=af.ev;have hm:=hc.back 0 af;clear af hc;have ar:=eW ar ad;clear ad;refine cq <| cy 9 rfl (by kernel_rfl) (fun _=>ar) <| nW (cs:=[.i IR]) wn (fU (vs:=[(0,.i IR)]) Tryz.underlying22 Tryz.sizeOf3 Tryz.zeroValue3 rfl rfl rfl ⟨⟨(I.g rfl),rfl⟩,trivial⟩ (by kernel_rfl)) I hm rfl rfl fun a aKT w ad ad' I hm=>?_
     have ad':=Nat.le_trans ar.size ad';have ar:=eW ar ad;clear ad;refine cq <| cy 10 rfl (by kernel_rfl) (fun _=>ar) ?_;obtain ⟨MB,azH,h⟩:=J.aI h;refine iQ (T:=(ai .i64)) (ml:=[IR]) 7 0 8 hm rfl rfl rfl Tryz.underlying22 jb rfl rfl azH rfl rfl ⟨_,_,rfl,rfl,rfl⟩ wn rfl (I.g rfl) (I.g rfl) I rfl rfl fun a ZL abe aIL w I hm=>cq ?_;clear a8 ar;have a8:=hm;have ar:=a7.refl [] w;refine dT.next 12 (a7 [] w) (by kernel_rfl) <| b7 [11] 1 [] [(53,.pointer (some ⟨dh,1,none⟩))] [] (fun a5 ad=>ax) I ar fun a I=>cy 12 rfl (by kernel_rfl) (fun _=>ar) ?_
     refine cA (vs:=[.q ZL abe MB]) 7 hm rfl wn rfl Tryz.sizeOf22 rfl rfl rfl rfl (I.g rfl) (I.g rfl) rfl fun w hm=>cq ?_;clear a8 ar;have a8:=hm;have ar:=a7.refl [] w;refine dT.next 13 (a7 [] w) (by kernel_rfl) <| eU (by kernel_rfl) ?_ (fun _=>ar);clear a8 ar;refine fN _ _ <| wp_seq_k fun K fW=>aZ <| bf 3 [0,2] [(55,.q BI Cq pV),(56,.q JX KK vG)] [dh,2] (ay (a1 (hm.e 7 rfl)) ax) I fun a I=>?_;have hm:=hm.freeze 2 5 rfl rfl
     refine gy (cs:=[.q JX KK vG]) wn (fU (vs:=[(0,.q JX KK vG)]) Tryz.underlying26 Tryz.sizeOf106 Tryz.zeroValue106 rfl rfl rfl ⟨⟨(I.g rfl),rfl⟩,trivial⟩ (by kernel_rfl)) I hm rfl rfl fun a aKU w _ I hm=>?_;obtain ⟨MC,azI,h⟩:=J.aI h;refine iQ (T:=(aH J.aW)) (ml:=[vG]) 5 0 9 hm rfl rfl rfl Tryz.underlying26 aeW rfl rfl azI rfl rfl ⟨_,_,rfl,(hm.d 0 rfl),rfl⟩ wn rfl (I.g rfl) (I.g rfl) I rfl rfl fun a ZM abf aIM w I hm=>aN 1 [] [(59,.pointer (some ⟨dh,2,none⟩))] I fun a I=>cA (vs:=[.q ZM abf MC]) 6 hm rfl wn rfl Tryz.sizeOf26 rfl rfl rfl rfl (I.g rfl) (I.g rfl) rfl fun w hm=>?_
     refine wpList_nil <| fW _ _ <| wp_seq_k fun K gv=>aZ <| bf 3 [0,3] [(61,.q BH Cp pU),(62,.q JY KL ni.1)] [dh,3] (ay (a1 (hm.e 6 rfl)) ax) I fun a I=>?_;have hm:=hm.freeze 0 5 rfl rfl;refine gy (cs:=[.q JY KL ni.1]) wn (fU (vs:=[(0,.q JY KL ni.1)]) Tryz.underlying27 Tryz.sizeOf125 Tryz.zeroValue125 rfl rfl rfl ⟨⟨(I.g rfl),rfl⟩,trivial⟩ (by kernel_rfl)) I hm rfl rfl fun a aKV w _ I hm=>?_;obtain ⟨MD,azJ,h⟩:=J.aI h
     refine iQ (T:=(aH bF)) (ml:=[ni.1]) 3 0 10 hm rfl rfl rfl Tryz.underlying27 aeX rfl rfl azJ rfl rfl ⟨_,_,rfl,(hm.d 0 rfl),rfl⟩ wn rfl (I.g rfl) (I.g rfl) I rfl rfl fun a ZN abg aIN w I hm=>aN 1 [] [(65,.pointer (some ⟨dh,3,none⟩))] I fun a I=>cA (vs:=[.q ZN abg MD]) 5 hm rfl wn rfl Tryz.sizeOf27 rfl rfl rfl rfl (I.g rfl) (I.g rfl) rfl fun w hm=>wpList_nil <| gv _ _ <| aZ <| bf 3 [0,4] [(67,.q BG Co pT),(68,.q JZ KM ni.2)] [dh,4] (ay (a1 (hm.e 5 rfl)) ax) I fun a I=>?_
     have hm:=hm.freeze 0 8 rfl rfl;refine gy (cs:=[.q JZ KM ni.2]) wn (fU (vs:=[(0,.q JZ KM ni.2)]) Tryz.underlying28 Tryz.sizeOf126 Tryz.zeroValue126 rfl rfl rfl ⟨⟨(I.g rfl),rfl⟩,trivial⟩ (by kernel_rfl)) I hm rfl rfl fun a aKW w _ I hm=>?_;obtain ⟨ME,azK,h⟩:=J.aI h;refine iQ (T:=(aH J.bV)) (ml:=[ni.2]) 1 0 11 hm rfl rfl rfl Tryz.underlying28 aeY rfl rfl azK rfl rfl ⟨_,_,rfl,(hm.d 0 rfl),rfl⟩ wn rfl (I.g rfl) (I.g rfl) I rfl rfl fun a ZO abh aIO w I hm=>aN 1 [] [(71,.pointer (some ⟨dh,4,none⟩))] I fun a I=>?_
     refine cA (vs:=[.q ZO abh ME]) 4 hm rfl wn rfl Tryz.sizeOf28 rfl rfl rfl rfl (I.g rfl) (I.g rfl) rfl fun w hm=>wpList_nil <| dS _ _ <| cg [] [(6,.i (J.av (kA+ 1)))] I fun a I=>?_;exact df _ _ ⟨ZO,abh,ME,aIO,ZN,abg,MD,aIN,ZM,abf,MC,aIM,ZL,abe,MB,aIL,J.av (kA+ 1),I.cut,hm.eg [0,2,4,6,16],h⟩
   refine wp_exit <| bC (bC (cv ?_));exact dj _ _ ⟨BG,Co,pT,JA,BH,Cp,pU,JB,BI,Cq,pV,JC,BJ,Cr,pW,JD,I.cut,hm,(os h)⟩
 rintro a w ⟨v',xj,pP,O',wa,xk,pQ,Pb,wb,xl,pR,Pc,wc,xm,pS,Pd,I,hm,bb⟩;subst VM;have h:=Tb;clear Tb;dsimp only [J.ec] at h;refine dm _ _ <| wp_seq_k fun K gQ=>aZ <| bf 1 [0,0] [(72,.agg #[.q ag ah aL,.q wc xm pS,.q wb xl pR,.q wa xk pQ,.q v' xj pP])] [dh,0] (ay (a1 (hm.e 4 rfl)) ax) I fun a I=>cA (vs:=[.q ag ah aL,.q wc xm pS,.q wb xl pR,.q wa xk pQ,.q v' xj pP]) 5 hm rfl wn rfl Tryz.sizeOf30 rfl rfl rfl rfl (I.g rfl) (I.g rfl) rfl fun w hm=>?_
 refine aN 1 [] [(3,.i 0)] I fun a I=>wpList_nil (gQ _ _ ?_);refine wp_ret ?_;obtain rfl:=aC h;refine gA (vs:=[.agg #[.q ag ah aL,.q wc xm pS,.q wb xl pR,.q wa xk pQ,.q v' xj pP],.i 0]) Tryz.results84 I ⟨⟨_,_,I.g rfl,.inl ⟨[.q ag ah aL,.q wc xm pS,.q wb xl pR,.q wa xk pQ,.q v' xj pP],Tryz.isAgg30,Tryz.sizeOf30,gD (hm.e 5 rfl) 0 ⟨rfl,rfl,rfl,rfl,rfl,trivial⟩,rfl⟩⟩,I.g rfl,trivial⟩ ?_
 exact ⟨ag,ah,wc,xm,Pd,wb,xl,Pc,wa,xk,Pb,v',xj,O',rfl,hm.aX [3,2,1,0] [4,3,2,1,0]⟩
end Go.Proofs.YtpkhpagplommoaaGreat
namespace J
def rB (x_:dk):Nat->(List ((List UInt8) × Int))->Int->Option (Way (Int × dk) (List ((List UInt8) × Int)))
 | 0,_,_=>none
 | bw+ 1,jW,kW=>
   cond (decide (kW <(x_.l.length:Int))) ((idx x_.l kW).bind fun k3=>
   cond ((du jW k3.Name).isSome) (some (.out (6,(⟨x_.l,jW,x_.b9⟩:dk)))) (rB x_ bw (hO jW k3.Name kW) (av (kW+ 1)))) (some (.go jW))
def Dx (F:Nat) (x_:dk):Option (Int × dk):=
 dv (α:=List ((List UInt8) × Int)) (rB x_ F x_.cK 0) fun (p':List ((List UInt8) × Int))=>
 cond ((!((du p' [79,98,106,101,99,116]).isSome)) || (!((du p' [69,114,114,111,114]).isSome))) (some (5,(⟨x_.l,p',x_.b9⟩:dk))) (some (0,(⟨x_.l,p',x_.b9⟩:dk)))
def vq (x_:dk):Nat->Int->Option (Way (Int × dk) (Unit))
 | 0,_=>none
 | bw+ 1,qo=>
   cond (decide (qo <(x_.l.length:Int))) ((idx x_.l qo).bind fun np=>
   cond (!((decide (np.Name= [79,98,106,101,99,116])) == (decide (np.b2= [])))) (some (.out (4,(⟨x_.l,x_.cK,x_.b9⟩:dk)))) (vq x_ bw (av (qo+ 1)))) (some (.go ()))
def o1 (x_:dk):Nat->(List Int)->Int->Option (Way (Int × dk) (List Int))
 | 0,_,_=>none
 | c7+ 1,jB,nd=>
   cond (decide (nd <(x_.l.length:Int))) (eh (α:=List Int) ((idx x_.l nd).bind fun gW=>
   eh (α:=Int) (eh (α:=Int) (cond (decide (gW.b2= [])) (some (.go (-1))) (cond (!((du x_.cK gW.b2).isSome)) (some (.out (5,(⟨x_.l,x_.cK,jB⟩:dk)))) (some (.go ((du x_.cK gW.b2).getD 0))))) fun (DL:Int)=>
   some (.go DL)) fun (rF:Int)=>
   (dU 8 jB [rF]).bind fun Dv=>
   some (.go Dv)) fun (rv:List Int)=>
   o1 x_ c7 rv (av (nd+ 1))) (some (.go jB))
def yr (x_:dk) (fq:List Int):Nat->Int->Int->Option (Int)
 | 0,_,_=>none
 | fB+ 1,sW,sX=>
   cond (decide (sX <(x_.l.length:Int))) ((idx fq sW).bind fun zc=>
   cond (decide (zc < 0)) (some zc) (yr x_ fq fB zc (av (sX+ 1)))) (some sW)
def vr (F:Nat) (x_:dk) (fq:List Int):Nat->Int->Option (Way (Int × dk) (Unit))
 | 0,_=>none
 | eB+ 1,kS=>
   cond (decide (kS <(x_.l.length:Int))) (eh (α:=Unit) (Option.bind (α:=Int) (Option.bind (α:=Int) (yr x_ fq F kS 0) fun (DI:Int)=>
   some DI) fun (DH:Int)=>
   cond (decide (0 <=DH)) (some (.out (4,(⟨x_.l,x_.cK,fq⟩:dk)))) (some (.go ()))) fun (_:Unit)=>
   vr F x_ fq eB (av (kS+ 1))) (some (.go ()))
def MW (F:Nat) (x_:dk):Option (Int × dk):=
 dv (α:=Unit) (vq x_ F 0) fun (_:Unit)=>
 dv (α:=List Int) (o1 x_ F x_.b9 0) fun (fq:List Int)=>
 dv (α:=Unit) (vr F x_ fq F 0) fun (_:Unit)=>
 some (0,(⟨x_.l,x_.cK,fq⟩:dk))
def vu (x_:dk):Nat->(List Int)->Int->Option (List Int)
 | 0,_,_=>none
 | bw+ 1,pN,m9=>
   cond (decide (0 <=m9)) ((dU 8 pN [m9]).bind fun Ip=>
   (idx x_.b9 m9).bind fun gU=>
   vu x_ bw Ip gU) (some pN)
def vt (F:Nat) (x_:dk) (bS:Int):Option (List Int):=
 Option.bind (α:=List Int) (vu x_ F [] bS) fun (lp:List Int)=>
 some lp
def I3 (_:List Int):Option Unit:=some ()
def yu (x_:dk):List Int->(List Field)->Option (List Field)
 | [],lq=>some lq
 | zb::NI,lq=>
   (idx x_.l zb).bind fun zf=>
   (dU 40 lq zf.Fields).bind fun MU=>
   yu x_ NI MU
def yt (F:Nat) (x_:dk) (bS:Int):Option (List Field):=
 (vt F (⟨x_.l,x_.cK,x_.b9⟩:dk) bS).bind fun rQ=>
 (I3 rQ).bind fun IQ=>
 Option.bind (α:=List Field) (yu x_ rQ.reverse []) fun (lq:List Field)=>
 some lq
def MX (F:Nat) (x_:dk):Option (Int):=
 (yt F (⟨x_.l,x_.cK,x_.b9⟩:dk) ((du x_.cK [69,114,114,111,114]).getD 0)).bind fun dJ=>
 (idx x_.l ((du x_.cK [69,114,114,111,114]).getD 0)).bind fun D'=>
 cond ((!decide (D'.b2= [79,98,106,101,99,116])) || (decide ((dJ.length:Int)= 0))) (some 4) ((idx dJ 0).bind fun Y8=>
 cond (!decide (Y8.Kind.Kind= 1)) (some 4) (some 0))
def AW (aa:Kind) (q1_:List (List UInt8)):Option (List (List UInt8)):=
 cond (!decide (aa.aO= [])) ((dU 16 q1_ [aa.aO]).bind fun m6=>
 some m6) (some q1_)
def vz (cP:aO):Nat->(List (List UInt8))->Int->Option (List (List UInt8))
 | 0,_,_=>none
 | c7+ 1,ry,pb=>
   cond (decide (pb <(cP.Fields.length:Int))) ((idx cP.Fields pb).bind fun pq=>
   (AW (⟨pq.Kind.Kind,pq.Kind.aO⟩:Kind) ry).bind fun Yp=>
   vz cP c7 Yp (av (pb+ 1))) (some ry)
def vB (c1:Method):Nat->(List (List UInt8))->Int->Option (List (List UInt8))
 | 0,_,_=>none
 | fB+ 1,rz,pd=>
   cond (decide (pd <(c1.bK.length:Int))) ((idx c1.bK pd).bind fun r0=>
   (AW (⟨r0.Kind,r0.aO⟩:Kind) rz).bind fun Ys=>
   vB c1 fB Ys (av (pd+ 1))) (some rz)
def vC (c1:Method):Nat->(List (List UInt8))->Int->Option (List (List UInt8))
 | 0,_,_=>none
 | h8+ 1,p7,pf=>
   cond (decide (pf <(c1.bN.length:Int))) ((idx c1.bN pf).bind fun n'=>
   (dU 16 p7 [n'.aO]).bind fun MO=>
   vC c1 h8 MO (av (pf+ 1))) (some p7)
def vA (F:Nat) (cP:aO):Nat->(List (List UInt8))->Int->Option (List (List UInt8))
 | 0,_,_=>none
 | eB+ 1,p6,jZ=>
   cond (decide (jZ <(cP.aU.length:Int))) (Option.bind (α:=List (List UInt8)) ((idx cP.aU jZ).bind fun c1=>
   Option.bind (α:=List (List UInt8)) (vB c1 F p6 0) fun (yp:List (List UInt8))=>
   (AW (⟨c1.Returns.Kind,c1.Returns.aO⟩:Kind) yp).bind fun Yt=>
   Option.bind (α:=List (List UInt8)) (vC c1 F Yt 0) fun (u':List (List UInt8))=>
   some u') fun (u_:List (List UInt8))=>
   vA F cP eB u_ (av (jZ+ 1))) (some p6)
def vy (F:Nat) (x_:dk):Nat->(List (List UInt8))->Int->Option (List (List UInt8))
 | 0,_,_=>none
 | bw+ 1,p2,hY=>
   cond (decide (hY <(x_.l.length:Int))) (Option.bind (α:=List (List UInt8)) ((idx x_.l hY).bind fun cP=>
   Option.bind (α:=List (List UInt8)) (vz cP F p2 0) fun (u7:List (List UInt8))=>
   Option.bind (α:=List (List UInt8)) (vA F cP F u7 0) fun (u9:List (List UInt8))=>
   some u9) fun (u6:List (List UInt8))=>
   vy F x_ bw u6 (av (hY+ 1))) (some p2)
def yB (x_:dk) (hV:List (List UInt8)):Nat->Int->Option (Way (Int) (Unit))
 | 0,_=>none
 | jS+ 1,qm=>
   cond (decide (qm <(hV.length:Int))) ((idx hV qm).bind fun Ej=>
   cond (!((du x_.cK Ej).isSome)) (some (.out 5)) (yB x_ hV jS (av (qm+ 1)))) (some (.go ()))
def Ix (F:Nat) (x_:dk):Option (Int):=
 Option.bind (α:=List (List UInt8)) (vy F x_ F [] 0) fun (hV:List (List UInt8))=>
 dv (α:=Unit) (yB x_ hV F 0) fun (_:Unit)=>
 some 0
def yC (aL:List (List UInt8)):Nat->(List ((List UInt8) × Bool))->Int->Option (List ((List UInt8) × Bool))
 | 0,_,_=>none
 | bw+ 1,vD,qi=>
   cond (decide (qi <(aL.length:Int))) ((idx aL qi).bind fun Js=>
   yC aL bw (hO vD Js true) (av (qi+ 1))) (some vD)
def Dz (F:Nat) (aL:List (List UInt8)):Option (Bool):=
 Option.bind (α:=List ((List UInt8) × Bool)) (yC aL F [] 0) fun (DA:List ((List UInt8) × Bool))=>
 some (decide ((DA.length:Int) <(aL.length:Int)))
def vw (iz:List Field):Nat->(List (List UInt8))->Int->Option (List (List UInt8))
 | 0,_,_=>none
 | c7+ 1,p1,qk=>
   cond (decide (qk <(iz.length:Int))) ((idx iz qk).bind fun qB=>
   (dU 16 p1 [qB.Name]).bind fun ML=>
   vw iz c7 ML (av (qk+ 1))) (some p1)
def vx (fg:aO):Nat->(List (List UInt8))->Int->Option (List (List UInt8))
 | 0,_,_=>none
 | eB+ 1,p3,ql=>
   cond (decide (ql <(fg.aU.length:Int))) ((idx fg.aU ql).bind fun hZ=>
   (dU 16 p3 [hZ.Name]).bind fun MN=>
   vx fg eB MN (av (ql+ 1))) (some p3)
def yy (F:Nat) (x_:dk):Nat->Int->Option (Way (Int) (Unit))
 | 0,_=>none
 | bw+ 1,jf=>
   cond (decide (jf <(x_.l.length:Int))) (eh (α:=Unit) ((idx x_.l jf).bind fun fg=>
   (yt F (⟨x_.l,x_.cK,x_.b9⟩:dk) jf).bind fun iz=>
   Option.bind (α:=List (List UInt8)) (vw iz F [] 0) fun (kP:List (List UInt8))=>
   Option.bind (α:=List (List UInt8)) (vx fg F [] 0) fun (sS:List (List UInt8))=>
   (Dz F kP).bind fun NB=>
   cond (NB) (some (.out 6)) ((Dz F sS).bind fun Yi=>
   cond (Yi) (some (.out 6)) (some (.go ())))) fun (_:Unit)=>
   yy F x_ bw (av (jf+ 1))) (some (.go ()))
def Iv (F:Nat) (x_:dk):Option (Int):=
 dv (α:=Unit) (yy F x_ F 0) fun (_:Unit)=>
 some 0
def A' (ca:List Kind) (cm:List Kind):Nat->Int->Option (Way (Bool) (Unit))
 | 0,_=>none
 | bw+ 1,ck=>
   cond (decide (ck <(ca.length:Int))) ((idx ca ck).bind fun fi=>
   (idx cm ck).bind fun fs=>
   cond (!decide (fi=fs)) (some (.out false)) (A' ca cm bw (av (ck+ 1)))) (some (.go ()))
def I9 (F:Nat) (ca:List Kind) (cm:List Kind):Option (Bool):=
 cond (!decide ((ca.length:Int)=(cm.length:Int))) (some false) (dv (α:=Unit) (A' ca cm F 0) fun (_:Unit)=>
 some true)
def MV (F:Nat) (a_:Method) (b_:Method):Option (Bool):=
 cond ((!a_.Static) && (!b_.Static)) ((I9 F a_.bK b_.bK).bind fun c8=>
 cond (c8) (some (decide ((⟨a_.Returns.Kind,a_.Returns.aO⟩:Kind)=(⟨b_.Returns.Kind,b_.Returns.aO⟩:Kind)))) (some false)) (some false)
def vv (F:Nat) (dx:Method) (j':aO):Nat->Int->Option (Way (Int) (Unit))
 | 0,_=>none
 | fB+ 1,nb=>
   cond (decide (nb <(j'.aU.length:Int))) ((idx j'.aU nb).bind fun eT=>
   cond (decide (dx.Name=eT.Name)) ((MV F (⟨dx.Name,dx.Static,dx.bK,(⟨dx.Returns.Kind,dx.Returns.aO⟩:Kind),dx.cY,dx.cX,dx.Code,dx.bN⟩:Method) (⟨eT.Name,eT.Static,eT.bK,(⟨eT.Returns.Kind,eT.Returns.aO⟩:Kind),eT.cY,eT.cX,eT.Code,eT.bN⟩:Method)).bind fun XW=>
   cond (!XW) (some (.out 4)) (vv F dx j' fB (av (nb+ 1)))) (vv F dx j' fB (av (nb+ 1)))) (some (.go ()))
def yx (F:Nat) (x_:dk) (dr:aO) (po:Int):Nat->Int->Option (Way (Int) (Unit))
 | 0,_=>none
 | eB+ 1,na=>
   cond (decide (na <(dr.aU.length:Int))) (eh (α:=Unit) ((idx dr.aU na).bind fun dx=>
   (idx x_.l po).bind fun j'=>
   eh (α:=Unit) (vv F dx j' F 0) fun (_:Unit)=>
   some (.go ())) fun (_:Unit)=>
   yx F x_ dr po eB (av (na+ 1))) (some (.go ()))
def yw (F:Nat) (x_:dk) (dr:aO) (g5:List Int):Nat->Int->Option (Way (Int) (Unit))
 | 0,_=>none
 | c7+ 1,kU=>
   cond (decide (kU <(g5.length:Int))) (eh (α:=Unit) ((idx g5 kU).bind fun po=>
   eh (α:=Unit) (yx F x_ dr po F 0) fun (_:Unit)=>
   some (.go ())) fun (_:Unit)=>
   yw F x_ dr g5 c7 (av (kU+ 1))) (some (.go ()))
def yv (F:Nat) (x_:dk):Nat->Int->Option (Way (Int) (Unit))
 | 0,_=>none
 | bw+ 1,hW=>
   cond (decide (hW <(x_.l.length:Int))) (eh (α:=Unit) ((idx x_.l hW).bind fun dr=>
   (vt F (⟨x_.l,x_.cK,x_.b9⟩:dk) hW).bind fun ph=>
   (cut ph 1 (ph.length:Int)).bind fun g5=>
   eh (α:=Unit) (yw F x_ dr g5 F 0) fun (_:Unit)=>
   some (.go ())) fun (_:Unit)=>
   yv F x_ bw (av (hW+ 1))) (some (.go ()))
def Iu (F:Nat) (x_:dk):Option (Int):=
 dv (α:=Unit) (yv F x_ F 0) fun (_:Unit)=>
 some 0
end J
